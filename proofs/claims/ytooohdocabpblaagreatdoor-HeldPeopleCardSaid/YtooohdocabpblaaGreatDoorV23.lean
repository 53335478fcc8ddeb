/- Constants run by themselves (8): code, calls; what a call leaves behind is forgotten. -/
import Derived.Test.YtooohdocabpblaaGreatDoorV22
import Derived.Test.YtooohdocabpblaaGreatDoorV18
set_option linter.all false
namespace Go.Av
open RowKit
variable [Tr]
def fEn{α:Type}:Env->(Env->α)->α
 | [],k=>k []
 | x::r,k=>fN x.1 fun t=>fEn r fun r=>k ((t,x.2)::r)
theorem AxR{α:Type}:∀ (e:Env)(k:Env->α),fEn e k=k e
 | [],_=>rfl
 | x::r,k=>by simp[fEn,fN_eq,AxR r]
theorem A2X{c:Cx}{e:Env}{s:LB}{a:Act}{w:World}(h:Sim c e s a w):Sim c (ddE 0 e) s a w:=by
 obtain⟨hh,ρ,hm,hl,he,hdf,hsz,hX⟩:=h;exact⟨hh,ρ,hm,hl,fun t=>by rw[AqR 0 e t (Nat.zero_testBit t)]; exact he t,hdf,hsz,hX⟩
def runS(P:Program)(cl:Cl)(N:Nat):Nat->List Kt->Env->LB->Option (Env×LB)
 | 0,_,_,_=>none
 | n+1,k,e,s=>match k with
  | []=>some (e,s)
  | .ops _ []::k=>runS P cl N n k e s
  | .ops all (o::os)::k=>match dOk N o.dst with
   | true=>match st3 P cl all o e s with
    | some (v,_,false)=>fA 3 v fun v=>runS P cl N n (.ops all os::k) (put e o.dst v) s
    | some (v,s',true)=>fA 3 v fun v=>fT s' fun s'=>runS P cl N n (.ops all os::k) (put e o.dst v) s'
    | none=>none
   | false=>none
  | .code .skip::k=>runS P cl N n k e s
  | .code (.region _ ops false)::k=>runS P cl N n (.ops ops.toList ops.toList::k) e s
  | .code (.region _ ops true)::k=>match evT P cl N ops.toList e s with
   | some (e',s')=>runS P cl N n k e' s'
   | none=>none
  | .code (.seq a b)::k=>runS P cl N n (.code a::.code b::k) e s
  | .code (.cond x a b)::k=>match ev e x with
   | .bool true=>runS P cl N n (.code a::k) e s
   | .bool false=>runS P cl N n (.code b::k) e s
   | _=>none
  | .code (.block id x)::k=>runS P cl N n (.code x::.blk id::k) e s
  | .code (.exit id)::k=>match AqT id k with
   | some k'=>runS P cl N n k' e s
   | none=>none
  | .code .ret::_=>some (e,s)
  | .code (.loop B)::k=>fEn (ddE 0 e) fun e=>runS P cl N n (.code B::.lp B::k) e s
  | .blk _::k=>runS P cl N n k e s
  | .lp B::k=>fEn (ddE 0 e) fun e=>runS P cl N n (.code B::.lp B::k) e s
  | .code _::_=>none
section
variable {c:Cx}{g:Std}{cl:Cl}
theorem AuI(hmx:c.P.follows .mixedOrders=true)(hcl:ClOk c.P g cl)(hg:Le g c.w c.ρ):∀ (n:Nat)(k:List Kt)(e:Env)(s:LB)(x:Env×LB),runS c.P cl c.fn.ntmps n k e s=some x->ARet c x.1 x.2->AWp c (its c k) e s:=by
 intro n
 induction n with
 | zero=>intro k e s x h; cases h
 | succ n ih =>
  intro k e s x h hr;unfold runS at h
  split at h
  .simp only [lad]at h
   subst h;exact AbU (wr:=false) (frz:=false) hr
  .exact AjF rfl (ih _ _ _ _ h hr)
  .rename_i all o os k
   split at h
   .rename_i hd
    have fin:∀ {v s' b},st3 c.P cl all o e s=some (v,s',b)->AWp c (its c (.ops all os::k)) (put e o.dst v) s'->AWp c (its c (.ops all (o::os)::k)) e s:=by
     intro v s' b h1 hnx a w hsim
     show wpList c.P all.toArray (WQ c (its c k)) (o::os) a w
     unfold wpList;obtain⟨k1,k2⟩:=AoS (Q:=WQ c (its c k)) (Kc:=wpList c.P all.toArray (WQ c (its c k)) os) hcl hg (A8T h1) hsim hd fun a' w' hs=>hnx a' w' hs
     by_cases hw:Region.wanted o (yielded all.toArray a.tmps)=true
     .rw [if_pos hw]; exact .inl (k1 hw)
     .rw [if_neg hw]; exact k2 (by simpa using hw)
    split at h
    .rename_i v s' h1
     rw[fA_eq]at h;have:=AmI h1;subst this;exact fin h1 (ih _ _ _ _ h hr)
    .rename_i v s' h1
     rw[fA_eq,AqQ]at h;exact fin h1 (ih _ _ _ _ h hr)
    .cases h
   .cases h
  .exact AjF rfl (ih _ _ _ _ h hr)
  .exact AjF rfl (ih _ _ _ _ h hr)
  .rename_i id ops k
   split at h
   .rename_i e' s' h1
    exact AxP hmx hcl hg h1 (ih _ _ _ _ h hr)
   .cases h
  .exact AjF rfl (ih _ _ _ _ h hr)
  .rename_i y p q k
   split at h
   .rename_i hb
    have hnx:=ih _ _ _ _ h hr;refine AbU (wr:=false) (frz:=false) ?_
    show Nx.sem c (AtR p q (its c k) e s (ev e y))
    rw[hb];exact⟨fun _=>hnx,fun h2=>(by cases h2)⟩
   .rename_i hb
    have hnx:=ih _ _ _ _ h hr;refine AbU (wr:=false) (frz:=false) ?_
    show Nx.sem c (AtR p q (its c k) e s (ev e y))
    rw[hb];exact⟨fun h2=>(by cases h2),fun _=>hnx⟩
   .cases h
  .exact AjF rfl (ih _ _ _ _ h hr)
  .rename_i id k
   split at h
   .rename_i k' hk
    refine AjF (k':=its c k') ?_ (ih _ _ _ _ h hr)
    show AzJ e s (AdS id (its c k))=_
    rw[AfV hk];rfl
   .cases h
  .simp only [lad]at h
   subst h;exact AbU (wr:=false) (frz:=false) hr
  .rw [AxR]at h
   refine A2G (AwB ?_);exact AWp.shift (fun a w hs=>A2X hs) (ih _ _ _ _ h hr)
  .exact AjF rfl (ih _ _ _ _ h hr)
  .rw [AxR]at h
   refine A7B (AwB ?_);exact AWp.shift (fun a w hs=>A2X hs) (ih _ _ _ _ h hr)
  .cases h
end
def lowR(n:Nat):AV->Bool
 | .tup l=>l.all (lowV n)
 | v=>lowV n v
def gcS(n:Nat)(r:AV)(s:LB):Option (AV×LB):=match decide (n<s.length)&&(lowR n r&&(s.take n).all (lowB n))with
 | true=>fT (s.take n) fun t=>some (r,t)
 | false=>some (r,s)
theorem CtH.low{P:Program}{g:Std}{f:FuncId}{args:LA}{s0:LB}{r:AV}{s:LB}{n:Nat}(hn0:s0.length<=n)(hn:n<=s.length)(hr:lowR n r=true)(hb:(s.take n).all (lowB n)=true)
  (hc:CtH P g f args s0 (fun x y=>x=r/\y=s)):CtH P g f args s0 (fun x y=>x=r/\y=s.take n):=by
 refine⟨hc.1,fun h ρ w vs hg hm hv=>(hc.2 h ρ w vs hg hm hv).mono ?_⟩;rintro en w' ⟨v,r',s',h',ρ',rfl,⟨rfl,rfl⟩,hm',hlt,rv⟩;have low:∀ v x,Lf ρ s0 v x->Lf (lowρ ρ' n) (s'.take n) v x:=by
  intro v x lf;have l2:=hlt.keep v x lf;refine⟨lf.1,AgL hn ?_ l2.2⟩;have hx:=lf.2
  cases x <;> simp only[LfC]at hx
  .rename_i i o l cp
   cases hq:s0[i]? with
   | none=>simp[hq]at hx
   | some y=>exact decide_eq_true (Nat.lt_of_lt_of_le (List.getElem?_eq_some_iff.1 hq).1 hn0)
  .rename_i i n j o
   cases hq:s0[i]? with
   | none=>simp[hq]at hx
   | some y=>exact decide_eq_true (Nat.lt_of_lt_of_le (List.getElem?_eq_some_iff.1 hq).1 hn0)
  .rename_i i
   cases hq:s0[i]? with
   | none=>simp[hq]at hx
   | some y=>exact decide_eq_true (Nat.lt_of_lt_of_le (List.getElem?_eq_some_iff.1 hq).1 hn0)
 have hρ:∀ i g t,lowρ ρ' n i=some (g,t)->ρ' i=some (g,t):=by
  intro i g t e;unfold lowρ at e
  split at e
  .exact e
  .cases e
 refine⟨v,r',s'.take n,h',lowρ ρ' n,rfl,⟨rfl,rfl⟩,hm'.low hn hb,⟨hlt.hle,hlt.hnew,low,hlt.os,hlt.tape,hlt.output,hlt.size,hlt.block,fun i g t hi=>hlt.newown i g t (hρ i g t hi)⟩,?_⟩
 cases r' with
 | tup l =>
  obtain⟨us,rfl,rl⟩:=AiE rv;have hall:∀ {l:LA} {us:List Value},l.all (lowV n)=true->RL h' (Lf ρ' s') false us l->RL h' (Lf (lowρ ρ' n) (s'.take n)) false us l:=by
   intro l
   induction l with
   | nil=>intro us _ r; cases r; exact .nil
   | cons a l ih =>
    intro us hl r;simp only[lay,lac]at hl
    cases r with|cons r1 r2=>exact .cons (AqL hn hl.1 r1) (ih hl.2 r2)
  exact .tup _ _ (hall hr rl)
 | _=>exact AqL hn hr rv
def AhC(P:Program)(orc:Cl):Nat->Cl
 | 0,f,args,s=>orc f args s
 | n+1,f,args,s=>match orc f args s with
  | some x=>some x
  | none=>match P.funcs[f]? with
   | some fn=>match fn.body with
    | some body=>match AaD P f&&decide (args.length<=fn.ntmps)with
     | true=>match runS P (AhC P orc n) fn.ntmps 1000000 [.code body] (args0 0 args) s with
      | some (e,s')=>match rvK P e s' fn.results.toList with
       | some vs=>fLg (fA 3) vs fun vs=>gcS s.length (resT vs) s'
       | none=>none
      | none=>none
     | false=>none
    | none=>none
   | none=>none
theorem AjG{P:Program}{g:Std}{orc:Cl}(hmx:P.follows .mixedOrders=true)(ho:ClOk P g orc):∀ n,ClOk P g (AhC P orc n)
 | 0=>ho
 | n+1=>by
  intro f args s r s' h;unfold AhC at h
  split at h
  .rename_i x hx
   simp only[lad]at h;subst h;exact ho f args s _ _ hx
  .split at h
   .rename_i fn hf
    split at h
    .rename_i body hb
     split at h
     .rename_i hbd
      rw[lac,lar]at hbd
      split at h
      .rename_i e1 s1 h1
       split at h
       .rename_i vs hvs
        rw[AoT (fA_eq 3)]at h;have hct:CtH P g f args s (fun x y=>x=resT vs/\y=s1):=by
         refine AfL hf hb rfl hbd.1 hbd.2 fun hh ρ w hg=>?_
         refine AuI (c:=⟨P,fn,hh,ρ,s,w,_,X0,stb0⟩) (g:=g) hmx (AjG hmx ho n) hg _ [.code body] _ _ _ h1 ?_;exact AlS fn.results.toList (by simp) vs (AxQ hvs) ⟨rfl,rfl⟩
        unfold gcS at h
        split at h
        .rename_i hq
         rw[AqQ]at h;simp only[lad,laq]at h;obtain⟨rfl,rfl⟩:=h;simp only[lac,lar]at hq;exact hct.low (lal _) (by omega) hq.2.1 hq.2.2
        .simp only [lad,laq]at h
         obtain⟨rfl,rfl⟩:=h;exact hct
       .cases h
      .cases h
     .cases h
    .cases h
   .cases h
theorem A2Y{P:Program}{g:Std}{orc:Cl}(hmx:P.follows .mixedOrders=true)(ho:ClOk P g orc)(n:Nat){f:FuncId}{args:LA}{s:LB}{r:AV}{s':LB}(h:AhC P orc n f args s=some (r,s')):CtH P g f args s (fun x y=>x=r/\y=s') :=
 AjG hmx ho n f args s r s' h
end Go.Av
namespace Go.Av
open RowKit
variable [Tr]
end Go.Av
namespace Go.Av
open RowKit
variable [Tr]
def sh1(n:Nat):AV->AV
 | .sl id o l c=>.sl (id+n) o l c
 | .ptr id m i o=>.ptr (id+n) m i o
 | .mp id=>.mp (id+n)
 | .agg _=>.any
 | .tup _=>.any
 | .fn _ _=>.any
 | a=>a
def shC(n:Nat):AV->AV
 | .agg r=>.agg (r.map (sh1 n))
 | a=>sh1 n a
def shV(n:Nat):AV->AV
 | .tup r=>.tup (r.map (shC n))
 | .agg r=>.agg (r.map (sh1 n))
 | a=>sh1 n a
def shB(n:Nat):Blk->Blk
 | .arr e l=>.arr e (l.map (shC n))
 | .mp es=>.mp (es.map fun x=>(x.1,shC n x.2))
 | b=>b
section
variable {h:Mem}{ρ1 ρ2:Own}{s1 s2:LB}{n:Nat}
theorem AqU(hs:∀ id,s2[id+n]? = (s1[id]?).map (shB n))(hr:∀ id,ρ2 (id+n)=ρ1 id){v:Value}{a:AV}(l:Lf ρ1 s1 v a):Lf ρ2 s2 v (sh1 n a):=by
 refine⟨l.1,?_⟩;have l:=l.2
 cases a with
 | sl id a b c =>
  simp only[sh1,LfC,hs,hr]at l |-
  cases hq:s1[id]? with
  | none=>grind
  | some b=>rw[hq]at l; cases b <;> simp only[lbr,shB,laa]at l |- <;> exact l
 | ptr id a b c =>
  simp only[sh1,LfC,hs,hr]at l |-
  cases hq:s1[id]? with
  | none=>grind
  | some b=>rw[hq]at l; cases b <;> simp only[lbr,shB,laa]at l |- <;> exact l
 | mp id =>
  simp only[sh1,LfC,hs,hr]at l |-
  cases hq:s1[id]? with
  | none=>grind
  | some b=>rw[hq]at l; cases b <;> simp at l |- <;> exact l
 | _=>exact l.elim
theorem AxS(hs:∀ id,s2[id+n]? = (s1[id]?).map (shB n))(hr:∀ id,ρ2 (id+n)=ρ1 id){v:Value}{a:AV}(r:RV h (Lf ρ1 s1) false v a):RV h (Lf ρ2 s2) false v (sh1 n a):=by
 have frz:frozen a=true->RV h (Lf ρ2 s2) false v a:=fun hf=>(AgC r hf).thaw (fun _ _ _ x=>x)
 cases a with
 | sl id o l c=>exact .leaf (AqU hs hr (AbN r))
 | ptr id n i o=>exact .leaf (AqU hs hr (AcK r))
 | mp id=>exact .leaf (AqU hs hr (AgT r))
 | agg r=>exact .any _
 | tup r=>exact .any _
 | fn f r=>exact .any _
 | _=>exact frz rfl
theorem AjH(hs:∀ id,s2[id+n]? = (s1[id]?).map (shB n))(hr:∀ id,ρ2 (id+n)=ρ1 id):∀ {l:LA}{vs:List Value},RL h (Lf ρ1 s1) false vs l->RL h (Lf ρ2 s2) false vs (l.map (sh1 n))
 | [],_,r=>by cases r; exact .nil
 | a::l,_,r=>by cases r with|cons r1 r2=>exact .cons (AxS hs hr r1) (AjH hs hr r2)
theorem AqV(hs:∀ id,s2[id+n]? = (s1[id]?).map (shB n))(hr:∀ id,ρ2 (id+n)=ρ1 id){v:Value}{a:AV}(r:RV h (Lf ρ1 s1) false v a):RV h (Lf ρ2 s2) false v (shC n a):=by
 cases a with
 | agg l =>
  obtain⟨vs,rfl,rl⟩:=inv_agg r;exact .agg vs _ (AjH hs hr rl)
 | _=>exact AxS hs hr r
theorem AsI(hs:∀ id,s2[id+n]? = (s1[id]?).map (shB n))(hr:∀ id,ρ2 (id+n)=ρ1 id):∀ {l:LA}{vs:List Value},RL h (Lf ρ1 s1) false vs l->RL h (Lf ρ2 s2) false vs (l.map (shC n))
 | [],_,r=>by cases r; exact .nil
 | a::l,_,r=>by cases r with|cons r1 r2=>exact .cons (AqV hs hr r1) (AsI hs hr r2)
theorem A2Z(hs:∀ id,s2[id+n]? = (s1[id]?).map (shB n))(hr:∀ id,ρ2 (id+n)=ρ1 id){v:Value}{a:AV}(r:RV h (Lf ρ1 s1) false v a):RV h (Lf ρ2 s2) false v (shV n a):=by
 cases a with
 | tup l =>
  obtain⟨vs,rfl,rl⟩:=AiE r;exact .tup vs _ (AsI hs hr rl)
 | agg l =>
  obtain⟨vs,rfl,rl⟩:=inv_agg r;exact .agg vs _ (AjH hs hr rl)
 | _=>exact AxS hs hr r
theorem shC_cells(n:Nat)(x:AV):cellsOf (shC n x)=(cellsOf x).map (sh1 n):=by cases x <;> rfl
theorem shC_flat(n:Nat):∀ l,flat (l.map (shC n))=(flat l).map (sh1 n)
 | []=>rfl
 | x::r=>by simp only[lak,flat,shC_cells,shC_flat n r,lav]
theorem A3A{ρ ρ2:Own}{s t:LB}(hr:∀ i,i<s.length->ρ2 i=ρ i){v:Value}{a:AV}(l:Lf ρ s v a):Lf ρ2 (s++t) v a:=by
 refine⟨l.1,?_⟩;have l:=l.2
 cases a with
 | sl id a b c =>
  grind[LfC]
 | ptr id a b c =>
  grind[LfC]
 | mp id =>
  grind[LfC]
 | _=>exact l.elim
end
theorem Ct.liftN{P:Program}{f:FuncId}{args:LA}{post:AV->LB->Prop}(hc:Ct P f args [] post)(ha:args.all nr1=true)(hmp:∀ r s',post r s'->s'.all mpOk=true)
  (s:LB):Ct P f args s (fun r2 s2=>∃ r s',post r s'/\r2=shV s.length r/\s2=s++s'.map (shB s.length)):=by
 refine⟨hc.1,fun h ρ w vs m r=>?_⟩;have hm0:Mine h (fun _=>none) [] w:=⟨m.mem,fun id blk e=>by simp at e,fun _ _=>rfl,fun i j g t t' e=>by simp at e,fun i g t e=>by simp at e⟩;refine(hc.2 h (fun _=>none) w vs hm0 ((AeO (Lf':=Lf0) r ha).thaw (fun _ _ _ x=>x))).mono ?_;rintro en w' ⟨v,r,s1,h',ρ1,rfl,hpost,m',lt,rv⟩;have hgood:∀ i g t,ρ1 i=some (g,t)->w.heap.size<=g:=fun i g t e=>by
  rcases lt.newown i g t e with⟨j,t',hj⟩|h
  .cases hj
  .exact h
 have hblk:∀ k,k<w.heap.size->w'.heap[k]? = w.heap[k]?:=fun k hk=>lt.block k hk (fun i t e=>by cases e)
 have hnew:∀ b o,h b o=none->h' b o≠none->w.heap.size<=b:=fun b o e n=>by
  rcases lt.hnew b o e n with⟨j,t',hj⟩|h
  .cases hj
  .exact h
 obtain⟨ρ2,hρ2⟩:∃ ρ2:Own,ρ2=fun k=>if k<s.length then ρ k else ρ1 (k-s.length):=⟨_,rfl⟩
 have hlo:∀ i,i<s.length->ρ2 i=ρ i:=fun i hi=>by rw[hρ2]; simp[hi]
 have hhi:∀ i,ρ2 (i+s.length)=ρ1 i:=fun i=>by
  rw[hρ2]
  show(if i+s.length<s.length then ρ (i+s.length) else ρ1 (i+s.length-s.length))=_
  rw[if_neg (by omega),Nat.add_sub_cancel]
 have hkeep:∀ v a,Lf ρ s v a->Lf ρ2 (s++s1.map (shB s.length)) v a:=fun v a x=>A3A hlo x
 have hst:∀ id,(s++s1.map (shB s.length))[id+s.length]? = (s1[id]?).map (shB s.length):=fun id=>by
  rw[List.getElem?_append_right (by omega),Nat.add_sub_cancel,lbh]
 have hown:∀ i g t,ρ2 i=some (g,t)->(i<s.length/\ρ i=some (g,t)/\g<w.heap.size)\/(s.length<=i/\ρ1 (i-s.length)=some (g,t)/\w.heap.size<=g):=fun i g t e=>by
  by_cases hi:i<s.length
  .rw [hlo i hi]at e
   exact .inl ⟨hi,e,m.lt e⟩
  .have e2:ρ2 i=ρ1 (i-s.length):=by rw[<- hhi]; congr 1; omega
   rw[e2]at e;exact .inr ⟨by omega,e,hgood _ g t e⟩
 refine⟨v,_,_,h',ρ2,rfl,⟨r,s1,hpost,rfl,rfl⟩,⟨m'.mem,?_,?_,?_,?_⟩,⟨lt.hle,fun b o e n=>.inr (hnew b o e n),hkeep,lt.os,lt.tape,lt.output,lt.size,fun k hk _=>hblk k hk,?_⟩,A2Z hst hhi rv⟩
 .intro i blk e
  by_cases hi:i<s.length
  .rw [lao hi]at e
   exact(m.own i blk e).mono lt.hle hkeep (hlo i hi) (fun g t hg=>hblk g (m.lt hg))
  .obtain ⟨j,rfl⟩:∃ j,i=j+s.length:=⟨i-s.length,by omega⟩
   rw[hst]at e
   cases hb:s1[j]? with
   | none=>rw[hb]at e; cases e
   | some b =>
    rw[hb]at e;simp only[lbr,lad]at e;subst e;have o:=m'.own j b hb;have hmb:=List.all_eq_true.1 (hmp _ _ hpost) b (laj hb)
    cases b with
    | arr es l =>
     rcases o with⟨h1,h2⟩|⟨g,tot,cur,t,h1,h2,h3,h4,h5,h6,h7,h8,h9⟩
     .exact .inl ⟨by simp[h1],(hhi j).trans h2⟩
     .refine .inr ⟨g,tot,cur,t,(hhi j).trans h1,h2,h3,by simpa using h4,h5,h6,?_,h8,?_⟩
      .intro x hx
       obtain⟨y,hy,rfl⟩:=List.mem_map.1 hx;rw[shC_cells,laa];exact h7 y hy
      .rw [shC_flat,laa]
       exact AjH hst hhi h9
    | mp es =>
     obtain⟨g,en,cl,h1,h2,h3,h4,h5⟩:=o;refine⟨g,en,cl,(hhi j).trans h1,h2,by rw[lvs_map]; simpa using h3,fun k x y hx hy=>?_,h5.map _⟩;rw[lvs_map,lbh]at hx;obtain⟨x',hx',rfl⟩:=Option.map_eq_some_iff.1 hx;obtain⟨p,q⟩:=h4 k x' y hx' hy;exact⟨p.thaw (fun _ _ _ x=>x),AqV hst hhi q⟩
    | it mid n seen=>cases hmb
    | dead=>exact(hhi j).trans o
 .intro i hi
  simp at hi
  have e2:ρ2 i=ρ1 (i-s.length):=by rw[<- hhi]; congr 1; omega
  rw[e2];exact m'.out _ (by omega)
 .intro i j g t t' hi hj
  rcases hown i g t hi with⟨a1,a2,a3⟩|⟨a1,a2,a3⟩ <;> rcases hown j g t' hj with⟨b1,b2,b3⟩|⟨b1,b2,b3⟩
  .exact m.inj i j g t t' a2 b2
  .omega
  .omega
  .have:=m'.inj _ _ g t t' a2 b2
   omega
 .intro i g t e o
  rcases hown i g t e with⟨a1,a2,a3⟩|⟨a1,a2,a3⟩
  .cases hq:h' g o with
   | none=>rfl
   | some z =>
    have:=hnew g o (m.disj i g t a2 o) (by rw[hq]; simp);omega
  .exact m'.disj _ g t a2 o
 .intro i g t e
  rcases hown i g t e with⟨a1,a2,a3⟩|⟨a1,a2,a3⟩
  .exact .inl ⟨i,t,a2⟩
  .exact .inr a3
def AcR(w:World):Mem:=fun b o=>match w.cell? ⟨b,o,none⟩with
 | some v=>if v.oneCell'=true then some v else none
 | none=>none
theorem AjI{w:World}:∀ b o v,AcR w b o=some v->w.cell? ⟨b,o,none⟩=some v/\v.oneCell'=true:=by grind[AcR]
theorem AsJ{h:Mem}{w:World}(hm:∀ b o v,h b o=some v->w.cell? ⟨b,o,none⟩=some v/\v.oneCell'=true):∀ b o v,h b o=some v->AcR w b o=some v:=by grind[AcR]
def bor:Nat->LB->AV->AV
 | 0,_,a=>match a with
  | .sl _ _ _ _=>.any
  | .ptr _ _ _ _=>.any
  | .mp _=>.any
  | .agg _=>.any
  | .tup _=>.any
  | .fn _ _=>.any
  | a=>a
 | n+1,s,a=>match a with
  | .sl id off len cap=>match s.getD id .dead with
   | .arr e l=>bif decide (off+cap=l.length)&&decide (len<=cap) then .fz e (((l.drop off).take len).map fun x=>match x with
    | .agg r=>.agg (r.map (bor n s))
    | x=>bor n s x) else .any
   | _=>.any
  | .ptr _ _ _ _=>.any
  | .mp _=>.any
  | .agg _=>.any
  | .tup _=>.any
  | .fn _ _=>.any
  | a=>a
def borC(n:Nat)(s:LB):AV->AV
 | .agg r=>.agg (r.map (bor n s))
 | x=>bor n s x
theorem bor_sl(n:Nat)(s:LB)(id off len cap:Nat):bor (n+1) s (.sl id off len cap)=match s.getD id .dead with
   | .arr e l=>bif decide (off+cap=l.length)&&decide (len<=cap) then .fz e (((l.drop off).take len).map (borC n s)) else .any
   | _=>.any:=rfl
theorem bor_cells(n:Nat)(s:LB)(x:AV):cellsOf (borC n s x)=(cellsOf x).map (bor n s):=by
 have key:∀ a,cellsOf (bor n s a)=[bor n s a]:=fun a=>by
  cases n with
  | zero=>cases a <;> rfl
  | succ n =>
   cases a with
   | sl id off len cap =>
    rw[bor_sl]
    split
    .cases decide (off+cap=_)&&decide (len<=cap) <;> rfl
    .rfl
   | _=>rfl
 cases x with
 | agg r=>rfl
 | _=>exact key _
theorem bor_flat(n:Nat)(s:LB):∀ l,flat (l.map (borC n s))=(flat l).map (bor n s)
 | []=>rfl
 | x::r=>by simp only[lak,flat,bor_cells,bor_flat n s r,lav]
section
variable {h:Mem}{ρ:Own}{s:LB}{w:World}
theorem AxT{v:Value}{a:AV}(m:Mine h ρ s w)(r:RV h (Lf ρ s) false v a)(hf:frozen a=true):RV (AcR w) Lf0 true v a :=
 (AgC r hf).thaw (AsJ m.mem)
theorem bor_list{n:Nat}(hn:∀ {v:Value}{a:AV},RV h (Lf ρ s) false v a->RV (AcR w) Lf0 true v (bor n s a)):∀ {l:LA}{vs:List Value},RL h (Lf ρ s) false vs l->RL (AcR w) Lf0 true vs (l.map (bor n s))
 | [],_,r=>by cases r; exact .nil
 | a::l,_,r=>by cases r with|cons r1 r2=>exact .cons (hn r1) (bor_list hn r2)
theorem AsK(m:Mine h ρ s w):∀ (n:Nat){v:Value}{a:AV},RV h (Lf ρ s) false v a->RV (AcR w) Lf0 true v (bor n s a)
 | 0,v,a,r=>by
  cases a with
  | sl id o l c=>exact .any _
  | ptr id m i o=>exact .any _
  | mp id=>exact .any _
  | agg r=>exact .any _
  | tup r=>exact .any _
  | fn f r=>exact .any _
  | _=>exact AxT m r rfl
 | n+1,v,a,r=>by
  cases a with
  | sl id off len cap =>
   rw[bor_sl];have hl:=(AbN r).2
   cases hq:s[id]? with
   | none=>grind[LfC]
   | some b =>
    have hgd:s.getD id .dead=b:=by grind
    rw[hgd]
    cases b with
    | arr e l =>
     simp only
     cases hd:decide (off+cap=l.length)&&decide (len<=cap)with
     | false=>exact .any _
     | true =>
      simp at hd
      obtain⟨hc,hlc⟩:=hd;simp only[LfC,hq]at hl
      rcases hl.2 hc with⟨rfl,rfl,a,rfl⟩|⟨g,tot,h1,rfl,_⟩
      .cases a with
       | none=>simpa[at0]using RV.fznil e
       | some a=>simpa[at0]using RV.fz a.1 a.2 0 e [] [] .nil (by simp) (by simp) (lal _)
      .rcases m.own id _ hq with⟨_,hn⟩|⟨g',tot',cur,t,h3,h4,h5,h6,h7,h8,h9,h10,h11⟩
       .grind
       .rw [h3]at h1
        have hlen:(((l.drop off).take len).map (borC n s)).length=len:=by grind
        have hr:RL (AcR w) Lf0 true (((cur.toList.take (l.length*e)).drop (off*e)).take (len*e)) (flat (((l.drop off).take len).map (borC n s))):=by
         rw[bor_flat,<- AbD (fun x hx=>h9 x (lbi hx)) len,<- AaP h9 off,List.map_take,List.map_drop];exact((bor_list (fun r=>AsK m n r) h11).drop _).take _
        have:=RV.fz (fl:=true) g' (off*e) (tot'-off) e (((l.drop off).take len).map (borC n s)) _ hr (fun x hx=>by
         grind[bor_cells]) (fun k v hk=>by
         rw[lbq]at hk
         split at hk
         .rw [List.getElem?_drop,lbq]at hk
          split at hk
          .have h12:=h10 v (laj hk)
           unfold AcR;rw[h4.cell,<- lbo,hk]
           grind
          grind
         grind) (by omega)
        grind
    | _=>exact .any _
  | ptr id m i o=>exact .any _
  | mp id=>exact .any _
  | agg r=>exact .any _
  | tup r=>exact .any _
  | fn f r=>exact .any _
  | _=>exact AxT m r rfl
theorem A5N(m:Mine h ρ s w)(n:Nat){v:Value}{a:AV}(r:RV h (Lf ρ s) false v a):RV (AcR w) Lf0 true v (borC n s a):=by
 cases a with
 | agg l =>
  obtain⟨vs,rfl,rl⟩:=inv_agg r;exact .agg vs _ (bor_list (fun r=>AsK m n r) rl)
 | _=>exact AsK m n r
end
def A8U:AV->Bool
 | .int _ _=>true
 | .bool _=>true
 | .str _=>true
 | _=>false
end Go.Av
namespace Go.Av
open RowKit
variable [Tr]
theorem CtH.liftN{P:Program}{g:Std}{f:FuncId}{args:LA}{post:AV->LB->Prop}(hc:CtH P g f args [] post)(ha:args.all nr1=true)(hmp:∀ r s',post r s'->s'.all mpOk=true)
  (s:LB):CtH P g f args s (fun r2 s2=>∃ r s',post r s'/\r2=shV s.length r/\s2=s++s'.map (shB s.length)):=by
 refine⟨hc.1,fun h ρ w vs hg m r=>?_⟩;have hm0:Mine h (fun _=>none) [] w:=⟨m.mem,fun id blk e=>by simp at e,fun _ _=>rfl,fun i j g t t' e=>by simp at e,fun i g t e=>by simp at e⟩;refine(hc.2 h (fun _=>none) w vs (fun k o e=>⟨(hg k o e).1,fun i t x=>by cases x⟩) hm0 ((AeO (Lf':=Lf0) r ha).thaw (fun _ _ _ x=>x))).mono ?_;rintro en w' ⟨v,r,s1,h',ρ1,rfl,hpost,m',lt,rv⟩;have hgood:∀ i g t,ρ1 i=some (g,t)->w.heap.size<=g:=fun i g t e=>by
  rcases lt.newown i g t e with⟨j,t',hj⟩|h
  .cases hj
  .exact h
 have hblk:∀ k,k<w.heap.size->w'.heap[k]? = w.heap[k]?:=fun k hk=>lt.block k hk (fun i t e=>by cases e)
 have hnew:∀ b o,h b o=none->h' b o≠none->w.heap.size<=b:=fun b o e n=>by
  rcases lt.hnew b o e n with⟨j,t',hj⟩|h
  .cases hj
  .exact h
 obtain⟨ρ2,hρ2⟩:∃ ρ2:Own,ρ2=fun k=>if k<s.length then ρ k else ρ1 (k-s.length):=⟨_,rfl⟩
 have hlo:∀ i,i<s.length->ρ2 i=ρ i:=fun i hi=>by rw[hρ2]; simp[hi]
 have hhi:∀ i,ρ2 (i+s.length)=ρ1 i:=fun i=>by
  rw[hρ2]
  show(if i+s.length<s.length then ρ (i+s.length) else ρ1 (i+s.length-s.length))=_
  rw[if_neg (by omega),Nat.add_sub_cancel]
 have hkeep:∀ v a,Lf ρ s v a->Lf ρ2 (s++s1.map (shB s.length)) v a:=fun v a x=>A3A hlo x
 have hst:∀ id,(s++s1.map (shB s.length))[id+s.length]? = (s1[id]?).map (shB s.length):=fun id=>by
  rw[List.getElem?_append_right (by omega),Nat.add_sub_cancel,lbh]
 have hown:∀ i g t,ρ2 i=some (g,t)->(i<s.length/\ρ i=some (g,t)/\g<w.heap.size)\/(s.length<=i/\ρ1 (i-s.length)=some (g,t)/\w.heap.size<=g):=fun i g t e=>by
  by_cases hi:i<s.length
  .rw [hlo i hi]at e
   exact .inl ⟨hi,e,m.lt e⟩
  .have e2:ρ2 i=ρ1 (i-s.length):=by rw[<- hhi]; congr 1; omega
   rw[e2]at e;exact .inr ⟨by omega,e,hgood _ g t e⟩
 refine⟨v,_,_,h',ρ2,rfl,⟨r,s1,hpost,rfl,rfl⟩,⟨m'.mem,?_,?_,?_,?_⟩,⟨lt.hle,fun b o e n=>.inr (hnew b o e n),hkeep,lt.os,lt.tape,lt.output,lt.size,fun k hk _=>hblk k hk,?_⟩,A2Z hst hhi rv⟩
 .intro i blk e
  by_cases hi:i<s.length
  .rw [lao hi]at e
   exact(m.own i blk e).mono lt.hle hkeep (hlo i hi) (fun g t hg=>hblk g (m.lt hg))
  .obtain ⟨j,rfl⟩:∃ j,i=j+s.length:=⟨i-s.length,by omega⟩
   rw[hst]at e
   cases hb:s1[j]? with
   | none=>rw[hb]at e; cases e
   | some b =>
    rw[hb]at e;simp only[lbr,lad]at e;subst e;have o:=m'.own j b hb;have hmb:=List.all_eq_true.1 (hmp _ _ hpost) b (laj hb)
    cases b with
    | arr es l =>
     rcases o with⟨h1,h2⟩|⟨g,tot,cur,t,h1,h2,h3,h4,h5,h6,h7,h8,h9⟩
     .exact .inl ⟨by simp[h1],(hhi j).trans h2⟩
     .refine .inr ⟨g,tot,cur,t,(hhi j).trans h1,h2,h3,by simpa using h4,h5,h6,?_,h8,?_⟩
      .intro x hx
       obtain⟨y,hy,rfl⟩:=List.mem_map.1 hx;rw[shC_cells,laa];exact h7 y hy
      .rw [shC_flat,laa]
       exact AjH hst hhi h9
    | mp es =>
     obtain⟨g,en,cl,h1,h2,h3,h4,h5⟩:=o;refine⟨g,en,cl,(hhi j).trans h1,h2,by rw[lvs_map]; simpa using h3,fun k x y hx hy=>?_,h5.map _⟩;rw[lvs_map,lbh]at hx;obtain⟨x',hx',rfl⟩:=Option.map_eq_some_iff.1 hx;obtain⟨p,q⟩:=h4 k x' y hx' hy;exact⟨p.thaw (fun _ _ _ x=>x),AqV hst hhi q⟩
    | it mid n seen=>cases hmb
    | dead=>exact(hhi j).trans o
 .intro i hi
  simp at hi
  have e2:ρ2 i=ρ1 (i-s.length):=by rw[<- hhi]; congr 1; omega
  rw[e2];exact m'.out _ (by omega)
 .intro i j g t t' hi hj
  rcases hown i g t hi with⟨a1,a2,a3⟩|⟨a1,a2,a3⟩ <;> rcases hown j g t' hj with⟨b1,b2,b3⟩|⟨b1,b2,b3⟩
  .exact m.inj i j g t t' a2 b2
  .omega
  .omega
  .have:=m'.inj _ _ g t t' a2 b2
   omega
 .intro i g t e o
  rcases hown i g t e with⟨a1,a2,a3⟩|⟨a1,a2,a3⟩
  .cases hq:h' g o with
   | none=>rfl
   | some z =>
    have:=hnew g o (m.disj i g t a2 o) (by rw[hq]; simp);omega
  .exact m'.disj _ g t a2 o
 .intro i g t e
  rcases hown i g t e with⟨a1,a2,a3⟩|⟨a1,a2,a3⟩
  .exact .inl ⟨i,t,a2⟩
  .exact .inr a3
end Go.Av
namespace Go.Av
open RowKit
variable [Tr]
section
variable {h H:Mem}{ρ:Own}{s:LB}{w:World}
theorem AsL(hH:∀ b o v,h b o=some v->H b o=some v){v:Value}{a:AV}(m:Mine h ρ s w)(r:RV h (Lf ρ s) false v a)(hf:frozen a=true):RV (H) Lf0 true v a :=
 (AgC r hf).thaw hH
theorem AjJ{n:Nat}(hn:∀ {v:Value}{a:AV},RV h (Lf ρ s) false v a->RV (H) Lf0 true v (bor n s a)):∀ {l:LA}{vs:List Value},RL h (Lf ρ s) false vs l->RL (H) Lf0 true vs (l.map (bor n s))
 | [],_,r=>by cases r; exact .nil
 | a::l,_,r=>by cases r with|cons r1 r2=>exact .cons (hn r1) (AjJ hn r2)
theorem AqW(hH:∀ b o v,h b o=some v->H b o=some v)(hO:∀ i g t o v,ρ i=some (g,t)->w.cell? ⟨g,o,none⟩=some v->v.oneCell'=true->H g o=some v)(m:Mine h ρ s w):∀ (n:Nat){v:Value}{a:AV},RV h (Lf ρ s) false v a->RV (H) Lf0 true v (bor n s a)
 | 0,v,a,r=>by
  cases a with
  | sl id o l c=>exact .any _
  | ptr id m i o=>exact .any _
  | mp id=>exact .any _
  | agg r=>exact .any _
  | tup r=>exact .any _
  | fn f r=>exact .any _
  | _=>exact AsL hH m r rfl
 | n+1,v,a,r=>by
  cases a with
  | sl id off len cap =>
   rw[bor_sl];have hl:=(AbN r).2
   cases hq:s[id]? with
   | none=>grind[LfC]
   | some b =>
    have hgd:s.getD id .dead=b:=by grind
    rw[hgd]
    cases b with
    | arr e l =>
     simp only
     cases hd:decide (off+cap=l.length)&&decide (len<=cap)with
     | false=>exact .any _
     | true =>
      simp at hd
      obtain⟨hc,hlc⟩:=hd;simp only[LfC,hq]at hl
      rcases hl.2 hc with⟨rfl,rfl,a,rfl⟩|⟨g,tot,h1,rfl,_⟩
      .cases a with
       | none=>simpa[at0]using RV.fznil e
       | some a=>simpa[at0]using RV.fz a.1 a.2 0 e [] [] .nil (by simp) (by simp) (lal _)
      .rcases m.own id _ hq with⟨_,hn⟩|⟨g',tot',cur,t,h3,h4,h5,h6,h7,h8,h9,h10,h11⟩
       .grind
       .have hlen:(((l.drop off).take len).map (borC n s)).length=len:=by grind
        have hr:RL (H) Lf0 true (((cur.toList.take (l.length*e)).drop (off*e)).take (len*e)) (flat (((l.drop off).take len).map (borC n s))):=by
         rw[bor_flat,<- AbD (fun x hx=>h9 x (lbi hx)) len,<- AaP h9 off,List.map_take,List.map_drop];exact((AjJ (fun r=>AqW hH hO m n r) h11).drop _).take _
        have:=RV.fz (fl:=true) g' (off*e) (tot'-off) e (((l.drop off).take len).map (borC n s)) _ hr (fun x hx=>by
         grind[bor_cells]) (fun k v hk=>by
         rw[lbq]at hk
         split at hk
         .rw [List.getElem?_drop,lbq]at hk
          split at hk
          .have h12:=h10 v (laj hk)
           exact hO id _ _ _ _ h3 (by rw[h4.cell,<- lbo,hk]) h12
          grind
         grind) (by omega)
        grind
    | _=>exact .any _
  | ptr id m i o=>exact .any _
  | mp id=>exact .any _
  | agg r=>exact .any _
  | tup r=>exact .any _
  | fn f r=>exact .any _
  | _=>exact AsL hH m r rfl
theorem AsM(hH:∀ b o v,h b o=some v->H b o=some v)(hO:∀ i g t o v,ρ i=some (g,t)->w.cell? ⟨g,o,none⟩=some v->v.oneCell'=true->H g o=some v)(m:Mine h ρ s w)(n:Nat){v:Value}{a:AV}(r:RV h (Lf ρ s) false v a):RV (H) Lf0 true v (borC n s a):=by
 cases a with
 | agg l =>
  obtain⟨vs,rfl,rl⟩:=inv_agg r;exact .agg vs _ (AjJ (fun r=>AqW hH hO m n r) rl)
 | _=>exact AqW hH hO m n r
theorem AoU(hH:∀ b o v,h b o=some v->H b o=some v)(hO:∀ i g t o v,ρ i=some (g,t)->w.cell? ⟨g,o,none⟩=some v->v.oneCell'=true->H g o=some v)(m:Mine h ρ s w)(n:Nat):∀ {l:LA}{vs:List Value},RL h (Lf ρ s) false vs l->RL (H) Lf0 true vs (l.map (borC n s))
 | [],_,r=>by cases r; exact .nil
 | a::l,_,r=>by cases r with|cons r1 r2=>exact .cons (AsM hH hO m n r1) (AoU hH hO m n r2)
end
def borV(n:Nat)(s:LB):AV->AV
 | .tup r=>.tup (r.map (borC n s))
 | x=>borC n s x
theorem PcH.ofOwn{P:Program}{g:Std}{f:FuncId}{args:LA}{post:AV->LB->Prop}(n:Nat)(hc:CtH P g f args [] post):PcH P g f args (fun r=>∃ r' s,post r' s/\r=borV n s r'):=by
 refine⟨hc.1,fun h w vs hg hm hv=>?_⟩;have hmine:Mine h (fun _=>none) [] w:=⟨hm,fun id blk e=>by grind,fun _ _=>rfl,fun i j g t t' e=>by grind,fun i g t e=>by grind⟩;refine(hc.2 h (fun _=>none) w vs (fun k o e=>⟨hg k o e,fun i t hi=>by grind⟩) hmine (hv.thaw (fun _ _ _ x=>x))).mono ?_;rintro en w' ⟨v,r,s,h',ρ',rfl,hp,hm',hl,rv⟩;have hnew:∀ b o,h b o=none->h' b o≠none->w.heap.size<=b:=fun b o e n=>by
  rcases hl.hnew b o e n with⟨j,t,hj⟩|hs<;>grind
 have hgood:∀ i g t,ρ' i=some (g,t)->w.heap.size<=g:=fun i g t e=>by
  rcases hl.newown i g t e with⟨j,t',hj⟩|h<;>grind
 obtain⟨H,hHd⟩:∃ H:Mem,H=fun b o=>if b<w.heap.size then h b o else AcR w' b o:=⟨_,rfl⟩
 have e1:∀ b o,b<w.heap.size->H b o=h b o:=fun b o hb=>by grind
 have e2:∀ b o,w.heap.size<=b->H b o=AcR w' b o:=fun b o hb=>by grind
 have hlow:∀ b o v,h b o=some v->b<w.heap.size:=fun b o v e=>hmine.memlt e
 have hH:∀ b o v,h' b o=some v->H b o=some v:=fun b o v e=>by
  by_cases hb:b<w.heap.size
  .rw [e1 b o hb]
   cases hq:h b o with
   | none=>grind
   | some u=>rw[<- e,hl.hle b o u hq]
  .rw [e2 b o (by omega)]
   exact AsJ hm'.mem b o v e
 have hO:∀ i g t o v,ρ' i=some (g,t)->w'.cell? ⟨g,o,none⟩=some v->v.oneCell'=true->H g o=some v:=fun i g t o v e hc h1=>by
  grind[AcR]
 refine⟨v,borV n s r,H,rfl,⟨r,s,hp,rfl⟩,fun b o v e=>?_,fun b o v e=>?_,fun b o e n=>?_,⟨hl.os,hl.tape,hl.output,hl.size,fun k hk=>hl.block k hk (fun i t e=>by grind)⟩,?_⟩
 .by_cases hb:b<w.heap.size
  .rw [e1 b o hb]at e
   exact hm'.mem b o v (hl.hle b o v e)
  grind[AjI]
 .grind
 .grind
 .cases r with
  | tup l =>
   obtain⟨us,rfl,rl⟩:=AiE rv;exact .tup us _ (AoU hH hO hm' n rl)
  | _=>exact AsM hH hO hm' n rv
theorem Pc.ofOwn{P:Program}{f:FuncId}{args:LA}{post:AV->LB->Prop}(n:Nat)(hc:Ct P f args [] post):Pc P f args (fun r=>∃ r' s,post r' s/\r=borV n s r'):=by
 have h:=PcH.ofOwn (g:=fun _=>none) n hc.toH;exact⟨h.1,fun hh w vs hm hv=>h.2 hh w vs (fun k o e=>by cases e) hm hv⟩
