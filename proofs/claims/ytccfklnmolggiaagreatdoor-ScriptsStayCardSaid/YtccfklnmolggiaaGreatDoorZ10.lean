/- Loops round by round. -/
import Derived.Test.YtccfklnmolggiaaGreatDoorZ9
import Derived.Lib.Builder
import Derived.Lib.AppendStr
import Derived.Lib.UnsafeStr
import Derived.Below
set_option linter.all false
namespace Go.Av
open RowKit
variable [Tr]
def Hd(P:Program)(B:Code)(Q:Exit->Act->World->Prop)(a:Act)(w:World):Prop :=
 ∀ (b:Frame) (k:List Item) (cs:List Frame),∃ e a' w',Q e a' w'/\Arrives P (lone (b.at a (.code B::.inLoop B::k)) cs w) b k cs e a' w'
theorem Hd.loop{P:Program}{B:Code}{Q:Exit->Act->World->Prop}{a:Act}{w:World}(h:Hd P B Q a w):(Code.loop B).wp P Q a w:=by
 intro b k cs;obtain⟨e,a',w',hq,harr⟩:=h b k cs;exact⟨e,a',w',hq,.of_steps (.one step_loop) harr⟩
theorem Hd.round{P:Program}{B:Code}{Q:Exit->Act->World->Prop}{a:Act}{w:World}(h:B.wp P (Exit.then (Hd P B Q) Q) a w):Hd P B Q a w:=by
 intro b k cs;obtain⟨e,a₁,w₁,hq,harr⟩:=h b (.inLoop B::k) cs
 cases e with
 | normal =>
  obtain⟨e₂,a₂,w₂,hq₂,harr₂⟩:=hq b k cs;exact⟨e₂,a₂,w₂,hq₂,.of_steps (Steps.trans harr (.one step_inLoop)) harr₂⟩
 | exit id=>exact⟨_,a₁,w₁,hq,.pass rfl (fun _ _=>.inl (by simp)) harr⟩
 | goto l=>exact⟨_,a₁,w₁,hq,.pass rfl (fun _ _=>.inl (by simp)) harr⟩
 | ret=>exact⟨_,a₁,w₁,hq,.pass rfl (fun _ _=>.inl (by simp)) harr⟩
 | panic ch=>exact⟨_,a₁,w₁,hq,.pass rfl (fun _ _=>.inl (by simp)) harr⟩
 | outgrown=>exact⟨_,a₁,w₁,hq,.pass rfl (fun _ _=>.inl (by simp)) harr⟩
section
variable {c:Cx}{k:List It}{e:Env}{s:LB}{B:Code}
def AHd(c:Cx)(B:Code)(k:List It)(e:Env)(s:LB):Prop:=∀ a w,Sim c e s a w->Hd c.P B (WQ c k) a w
theorem AbD(h:AHd c B k e s):AWp c (.code (.loop B)::k) e s:=fun a w hs=>(h a w hs).loop
theorem around(h:AWp c (.code B::.inv (Hd c.P B (WQ c k))::k) e s):AHd c B k e s:=fun a w hs=>by
 refine Hd.round ?_;refine Code.wp_mono ?_ (h a w hs);intro en a' w' hq
 cases en <;> exact hq
theorem AdQ(h:AHd c B k e s):AWp c (.inv (Hd c.P B (WQ c k))::k) e s:=fun a w hs=>h a w hs
theorem AHd.shift{e':Env}{s':LB}(x:Shift c e s e' s')(h:AHd c B k e' s'):AHd c B k e s:=fun a w hs=>h a w (x a w hs)
end
end Go.Av
namespace Go.Av
open RowKit
variable [Tr]
section
variable {h:Mem}{ρ:Own}{sto:LB}{w:World}{P:Program}
theorem Mine.trim(m:Mine h ρ sto w){id e:Nat}{l:LY}(hb:sto[id]? = some (.arr e l))(n:Nat) :
  ∃ ρ',Mine h ρ' (sto.set id .dead++[.arr e (l.take n)]) w/\Later h ρ sto w h ρ' (sto.set id .dead++[.arr e (l.take n)]) w /\
   ∀ v cap,LfC ρ sto v (.sl id 0 n cap)->cap=l.length->n<=cap->LfC ρ' (sto.set id .dead++[.arr e (l.take n)]) v (.sl sto.length 0 n n):=by
 have hid:=(List.getElem?_eq_some_iff.1 hb).1;have hlen:(sto.set id .dead).length=sto.length:=by simp
 let ρ1:Own:=upd ρ id none
 let ρ2:Own:=upd ρ1 sto.length (ρ id)
 have hk1:∀ v a,LfC ρ sto v a->LfC ρ1 (sto.set id .dead) v a:=fun v a l=>AbK hb (fun i hi=>by simp[ρ1,upd,hi]) trivial l
 have hk2:∀ v a,LfC ρ1 (sto.set id .dead) v a->LfC ρ2 (sto.set id .dead++[.arr e (l.take n)]) v a:=fun v a lf=>by
  have:=AxQ (b:=.arr e (l.take n)) (x:=ρ id) lf
  rwa [hlen]at this
 have hk:∀ v a,Lf ρ sto v a->Lf ρ2 (sto.set id .dead++[.arr e (l.take n)]) v a:=fun v a lf=>⟨lf.1,hk2 v a (hk1 v a lf.2)⟩
 have hρ:∀ i b t,ρ2 i=some (b,t)->(i=sto.length/\ρ id=some (b,t))\/(i≠id/\i≠sto.length/\ρ i=some (b,t)):=by
  intro i b t hi;simp only[ρ2,ρ1,upd]at hi
  split at hi
  .exact .inl ⟨by assumption,hi⟩
  .split at hi
   .simp at hi
   .exact .inr ⟨by assumption,by assumption,hi⟩
 have hnew:ρ2 sto.length=ρ id:=by simp[ρ2,upd]
 refine⟨ρ2,⟨m.mem,?_,?_,?_,?_⟩,⟨fun _ _ _ x=>x,fun _ _ a b=>(b a).elim,hk,rfl,rfl,⟨rfl,Tr.same rfl⟩,lab _,fun _ _ _=>rfl,?_⟩,?_⟩
 .intro i blk e1
  by_cases hi:i<sto.length
  .rw [lat (by rw[hlen]; exact hi)]at e1
   by_cases hii:i=id
   .subst hii
    simp[hid]at e1
    subst e1
    show ρ2 i=none
    simp[ρ2,ρ1,upd,Nat.ne_of_lt hi]
   .rw [lax (Ne.symm hii)]at e1
    exact(m.own i blk e1).mono (fun _ _ _ x=>x) hk (by simp[ρ2,ρ1,upd,hii,Nat.ne_of_lt hi]) (fun _ _ _=>rfl)
  .have hlt:=(List.getElem?_eq_some_iff.1 e1).1
   simp at hlt
   have:i=sto.length:=by omega
   subst this;rw[lay (by rw[hlen]; exact lab _)]at e1
   simp at e1
   subst e1
   rcases m.own id _ hb with⟨rfl,hn⟩|⟨g,tot,cur,t,h3,h4,h5,h6,h7,h8,h9,h10,h11⟩
   .exact .inl ⟨by simp,by rw[hnew]; exact hn⟩
   .refine .inr ⟨g,tot,cur,t,by rw[hnew]; exact h3,h4,h5,by simp; omega,h7,h8,fun x hx=>h9 x (lbh hx),h10,?_⟩
    have:=(h11.take (n*e)).mono (fun _ _ _ x=>x) hk;rw[AbI h9,List.take_take]at this;have e2:min (n*e) (l.length*e)=(l.take n).length*e:=by
     rw[List.length_take]
     rcases Nat.le_total n l.length with hh|hh
     .rw [Nat.min_eq_left hh,Nat.min_eq_left (lbl _ hh)]
     .rw [Nat.min_eq_right hh,Nat.min_eq_right (lbl _ hh)]
    rw[e2]at this;exact this
 .intro i hi
  simp at hi
  have h1:i≠id:=by omega
  have h2:i≠sto.length:=by omega
  simp[ρ2,ρ1,upd,h1,h2,m.out i (by omega)]
 .intro i j b t t' hi hj
  rcases hρ i b t hi with⟨h1,h2⟩|⟨h1,h2,h3⟩ <;> rcases hρ j b t' hj with⟨h4,h5⟩|⟨h4,h5,h6⟩
  .omega
  .exact (h4 (m.inj j id _ _ _ h6 h2)).elim
  .exact (h1 (m.inj i id _ _ _ h3 h5)).elim
  .exact m.inj i j _ _ _ h3 h6
 .intro i b t hi o
  rcases hρ i b t hi with⟨h1,h2⟩|⟨h1,h2,h3⟩
  .exact m.disj id _ _ h2 o
  .exact m.disj i _ _ h3 o
 .intro i b t hi
  rcases hρ i b t hi with⟨h1,h2⟩|⟨h1,h2,h3⟩
  .exact .inl ⟨id,t,h2⟩
  .exact .inl ⟨i,t,h3⟩
 .intro v cap hl hc hnc
  subst hc;simp only[LfC,hb]at hl;have hg:(sto.set id .dead++[.arr e (l.take n)])[sto.length]? = some (.arr e (l.take n)):=by
   rw[lay (by rw[hlen]; exact lab _)]; simp
  simp only[LfC,hg,List.length_take];refine⟨by omega,fun _=>?_⟩
  rcases hl.2 (by omega)with⟨h1,h2,a,rfl⟩|⟨g,tot,h1,rfl,h2⟩
  .exact .inl ⟨h1,h1,a,rfl⟩
  .exact .inr ⟨g,tot,by rw[hnew]; exact h1,rfl,lab _⟩
variable {c:Cx}{e:Env}{s:LB}
theorem Shift.trim(t:Tmp){id len cap es:Nat}{l:LY}(hv:get e t=.sl id 0 len cap)(hb:s.getD id .dead=.arr es l)(hc:cap=l.length)(hl:len<=cap) :
  Shift c e s (put e (some t) (.sl s.length 0 len len)) (s.set id .dead++[.arr es (l.take len)]):=by
 rintro a w ⟨hh,ρ,hm,hlt,he,hdf,hsz,hX⟩;obtain⟨ρ',m',l',key⟩:=hm.trim (AbT hb) len;refine⟨hh,ρ',m',hlt.trans l',fun t'=>?_,hdf,hsz,c.hx.later hm l' hX⟩;rw[get_put]
 split
 .rename_i ht
  simp only[lam]at ht;subst ht;have:=he t;rw[hv]at this;exact .leaf ⟨(AaY this).1,key _ _ (AaY this).2 hc hl⟩
 .exact (he t').mono l'.hle l'.keep
end
end Go.Av
namespace Go.Av
open RowKit
variable [Tr]
abbrev strs(l:List LU):LY:=l.map .str
abbrev sval(s:LU):Value:=.string ⟨s.toArray⟩
theorem AkW:∀ l:List LU,flat (strs l)=strs l
 | []=>rfl
 | x::r=>by simp only[lah,flat,cellsOf,las,lbm]; rw[AkW r]
section
variable {h:Mem}{ρ:Own}{sto:LB}{w:World}{P:Program}
end
end Go.Av
namespace Go.Av
open RowKit
variable [Tr]
def dry:Blk->Bool
 | .arr _ l=>(flat l).all frozen
 | .mp es=>es.all fun x=>frozen x.1&&frozen x.2
 | .it _ _ _=>false
 | .dead=>true
def okg(n0 id:Nat)(x:AV):AV->Prop
 | .sl m a b c=>(m<n0/\x=.sl m a b c)\/(m=n0/\x=.sl id a b c)
 | .ptr m n i o=>m<n0/\x=.ptr m n i o
 | v=>frozen v=true/\x=v
def wkg(n0 id:Nat)(e:Env):Env->Prop
 | []=>True
 | (t,v)::r=>okg n0 id (get e t) v/\wkg n0 id e r
section
variable {h:Mem}{ρ ρ':Own}{sto sto':LB}{w:World}{P:Program}
theorem OwnB.dry{id id':Nat}{blk:Blk}(e:ρ' id'=ρ id)(hd:Av.dry blk=true)(o:OwnB h ρ sto w id blk):OwnB h ρ' sto' w id' blk:=by
 cases blk with
 | arr es l =>
  rcases o with⟨h1,h2⟩|⟨g,tot,cur,t,h1,h2,h3,h4,h5,h6,h7,h8,h9⟩
  .exact .inl ⟨h1,e.trans h2⟩
  .exact .inr ⟨g,tot,cur,t,e.trans h1,h2,h3,h4,h5,h6,h7,h8,(AcI h9 hd).thaw (fun _ _ _ x=>x)⟩
 | mp es =>
  obtain⟨g,en,cl,h1,h2,h3,h4,h5⟩:=o;refine⟨g,en,cl,e.trans h1,h2,h3,fun k x y hx hy=>?_,h5⟩;obtain⟨p,q⟩:=h4 k x y hx hy;simp only[Av.dry,lbv,lac]at hd;have:=hd x (AoP (laj hx));exact⟨(AdW p this.1).thaw (fun _ _ _ x=>x),(AdW q this.2).thaw (fun _ _ _ x=>x)⟩
 | it mid n seen=>cases hd
 | dead=>exact e.trans o
theorem ArY{id id':Nat}{blk:Blk}(h1:sto[id]? = some blk)(h2:sto'[id']? = some blk)(e:ρ' id'=ρ id){v:Value}{a b c:Nat}(l:LfC ρ sto v (.sl id a b c)):LfC ρ' sto' v (.sl id' a b c):=by
 simp only[LfC,h1,h2,e]at l |-;exact l
theorem A4F{id id':Nat}{blk:Blk}(h1:sto[id]? = some blk)(h2:sto'[id']? = some blk)(e:ρ' id'=ρ id){v:Value}{a b c:Nat}(l:LfC ρ sto v (.ptr id a b c)):LfC ρ' sto' v (.ptr id' a b c):=by
 simp only[LfC,h1,h2,e]at l |-;exact l
def keepρ(ρ:Own)(n0 id:Nat):Own:=fun i=>if i<n0 then ρ i else if i=n0 then ρ id else none
theorem Mine.only(m:Mine h ρ sto w){n0 id:Nat}{blk:Blk}(hid:n0<=id)(hb:sto[id]? = some blk)(hd:dry blk=true)(hall:(sto.take n0).all dry=true) :
  Mine h (keepρ ρ n0 id) (sto.take n0++[blk]) w:=by
 have hlt:=(List.getElem?_eq_some_iff.1 hb).1;have hlen:(sto.take n0).length=n0:=by simp; omega
 have hρ:∀ i g t,keepρ ρ n0 id i=some (g,t)->(i<n0/\ρ i=some (g,t))\/(i=n0/\ρ id=some (g,t)):=by
  intro i g t e;unfold keepρ at e
  split at e
  .exact .inl ⟨by assumption,e⟩
  .split at e
   .exact .inr ⟨by assumption,e⟩
   .cases e
 refine⟨m.mem,?_,?_,?_,?_⟩
 .intro i b e
  by_cases hi:i<n0
  .rw [lat (by omega),lce,if_pos hi]at e
   refine(m.own i b e).dry (by simp[keepρ,hi]) ?_;rw[lbv]at hall;exact hall b (laj (i:=i) (by rw[lce,if_pos hi]; exact e))
  .have hl:=(List.getElem?_eq_some_iff.1 e).1
   simp at hl
   have:i=n0:=by omega
   subst this;rw[lay (by omega),hlen]at e
   simp at e
   subst e;exact(m.own id _ hb).dry (by simp[keepρ]) hd
 .intro i hi
  simp at hi
  have h1:¬ i<n0:=by omega
  have h2:¬ i=n0:=by omega
  simp[keepρ,h1,h2]
 .intro i j g t t' hi hj
  rcases hρ i g t hi with⟨h1,h2⟩|⟨h1,h2⟩ <;> rcases hρ j g t' hj with⟨h3,h4⟩|⟨h3,h4⟩
  .exact m.inj i j g t t' h2 h4
  .have:=m.inj i id g t t' h2 h4; omega
  .have:=m.inj id j g t t' h2 h4; omega
  .omega
 .intro i g t e
  rcases hρ i g t e with⟨_,h2⟩|⟨_,h2⟩
  .exact m.disj i g t h2
  .exact m.disj id g t h2
variable {c:Cx}{e:Env}{s:LB}
theorem BgB{n0 id:Nat}{e e':Env}(h:wkg n0 id e e')(t:Nat):get e' t=.any\/okg n0 id (get e t) (get e' t):=by
 induction e' with
 | nil=>exact .inl rfl
 | cons x r ih =>
  obtain⟨k,v⟩:=x;simp only[get]
  by_cases hk:k=t
  .subst hk; simp; exact .inr h.1
  .have:(k==t)=false:=by simpa using hk
   simp only[this,lba];exact ih h.2
theorem Shift.only(n0 id:Nat){e':Env}{blk:Blk}(hc:c.sto.length<=n0)(hid:n0<=id)(hb:s.getD id .dead=blk)(hne:id<s.length)(hd:dry blk=true)(hall:(s.take n0).all dry=true)(hw:wkg n0 id e e') :
  Shift c e s e' (s.take n0++[blk]):=by
 rintro a w ⟨hh,ρ,hm,hlt,he,hdf,hsz,hX⟩;have hb':s[id]? = some blk:=by rw[<- hb,List.getD,lad hne]; rfl
 have hlen:(s.take n0).length=n0:=by simp; omega
 have hn:(s.take n0++[blk])[n0]? = some blk:=by rw[lay (by omega),hlen]; simp
 have hlow:∀ i,i<n0->(s.take n0++[blk])[i]? = s[i]?:=fun i hi=>by rw[lat (by omega),lce,if_pos hi]
 have hρl:∀ i,i<n0->keepρ ρ n0 id i=ρ i:=fun i hi=>by simp[keepρ,hi]
 have hρn:keepρ ρ n0 id n0=ρ id:=by simp[keepρ]
 have low:∀ v x,Lf c.ρ c.sto v x->Lf (keepρ ρ n0 id) (s.take n0++[blk]) v x:=by
  intro v x lf;have l2:=hlt.keep v x lf;refine⟨lf.1,?_⟩;have hx:=lf.2;have l3:=l2.2
  cases x <;> simp only[LfC]at hx l3 |-
  .rename_i i o l cp
   cases hq:c.sto[i]? with
   | none=>simp[hq]at hx
   | some y =>
    have hi:i<n0:=lcd (List.getElem?_eq_some_iff.1 hq).1 hc;rw[hlow i hi,hρl i hi]; exact l3
  .rename_i i n j o
   cases hq:c.sto[i]? with
   | none=>simp[hq]at hx
   | some y =>
    have hi:i<n0:=lcd (List.getElem?_eq_some_iff.1 hq).1 hc;rw[hlow i hi,hρl i hi]; exact l3
  .rename_i i
   cases hq:c.sto[i]? with
   | none=>simp[hq]at hx
   | some y =>
    have hi:i<n0:=lcd (List.getElem?_eq_some_iff.1 hq).1 hc;rw[hlow i hi,hρl i hi]; exact l3
 refine⟨hh,keepρ ρ n0 id,hm.only hid hb' hd hall,⟨hlt.hle,hlt.hnew,low,hlt.os,hlt.tape,hlt.output,hlt.size,hlt.block,?_⟩,fun t=>?_,hdf,hsz,c.hx.fewer (fun i g t hi=>?_) hX⟩
 .intro i g t hi
  unfold keepρ at hi
  split at hi
  .exact hlt.newown i g t hi
  .split at hi
   .exact hlt.newown id g t hi
   .cases hi
 rotate_left
 .unfold keepρ at hi
  split at hi
  .exact ⟨i,t,hi⟩
  .split at hi
   .exact ⟨id,t,hi⟩
   .cases hi
 .have hx:=he t
  rcases BgB hw t with hq|hq
  .rw [hq]; exact .any _
  .generalize Av.get e' t=y at hq |-
   have frz:frozen y=true->Av.get e t=y->RV hh (Lf (keepρ ρ n0 id) (s.take n0++[blk])) false (a.tmps.getD t undef) y:=fun hf he'=>by
    rw[he']at hx;exact(AdW hx hf).thaw (fun _ _ _ x=>x)
   cases y <;> simp only[okg]at hq
   case sl i o l cp =>
    rcases hq with⟨hi,hq⟩|⟨hi,hq⟩
    .rw [hq]at hx
     have l:=AaY hx;exact .leaf ⟨l.1,ArY (blk:=s[i]'(by omega)) (lad (by omega)) (by rw[hlow i hi]; exact lad (by omega)) (hρl i hi) l.2⟩
    .rw [hq]at hx
     have l:=AaY hx;subst hi;exact .leaf ⟨l.1,ArY hb' hn hρn l.2⟩
   case ptr i n j o =>
    obtain⟨hi,hq⟩:=hq;rw[hq]at hx;have l:=AcE hx;exact .leaf ⟨l.1,A4F (blk:=s[i]'(by omega)) (lad (by omega)) (by rw[hlow i hi]; exact lad (by omega)) (hρl i hi) l.2⟩
   all_goals exact frz hq.1 hq.2
theorem BaW{f:FuncId}{args:LY}{n es:Nat}{l:LY}(hn:n=l.length)(hf:(flat l).all frozen=true)(hc:Ct P f args [] (fun r s=>r=.sl 0 0 n n/\s=[.arr es l])):Pc P f args (· = .fz es l):=by
 subst hn;refine AbG ⟨hc.1,fun h ρ w vs hm hv=>(hc.2 h ρ w vs hm hv).mono ?_⟩;rintro en w' ⟨v,r,s,h',ρ',rfl,⟨rfl,rfl⟩,m',l',rv⟩;obtain⟨h2,ρ2,m2,l2,key⟩:=m'.freeze (id:=0) rfl hf;have:=key v 0 l.length l.length (AaY rv).2 (by simp) (lab _);rw[List.drop_zero,lbt]at this;exact⟨v,_,_,h2,ρ2,rfl,⟨rfl,rfl⟩,m2,l'.trans l2,this⟩
end
end Go.Av
namespace Go.Av
open RowKit
variable [Tr]
abbrev Std:=Nat->Option Obj
def ArZ(g:Std)(w:World):Prop:=∀ k o,g k=some o->w.heap[k]? = some o
def Le(g:Std)(w:World)(ρ:Own):Prop:=∀ k o,g k=some o->w.heap[k]? = some o/\∀ i t,ρ i≠some (k,t)
theorem Le.later{g:Std}{h h':Mem}{ρ ρ':Own}{sto sto':LB}{w w':World}(a:Le g w ρ)(x:Later h ρ sto w h' ρ' sto' w'):Le g w' ρ':=fun k o e=>by
 obtain⟨h1,h2⟩:=a k o e;have hk:=(Array.getElem?_eq_some_iff.1 h1).1;refine⟨(x.block k hk h2).trans h1,fun i t hi=>?_⟩
 rcases x.newown i k t hi with⟨j,t',hj⟩|hs<;>grind
def CtH(P:Program)(g:Std)(f:FuncId)(args:LY)(sto:LB)(post:AV->LB->Prop):Prop :=
 AaB P f=true/\∀ h ρ w vs,Le g w ρ->Mine h ρ sto w->RL h (Lf ρ sto) false vs args->Calls P f vs.toArray w fun en w' =>
  ∃ v r s h' ρ',en=.returned v/\post r s/\Mine h' ρ' s w'/\Later h ρ sto w h' ρ' s w'/\RV h' (Lf ρ' s) false v r
def PcH(P:Program)(g:Std)(f:FuncId)(args:LY)(post:AV->Prop):Prop :=
 AaB P f=true/\∀ h w vs,ArZ g w->(∀ b o v,h b o=some v->w.cell? ⟨b,o,none⟩=some v/\v.oneCell'=true)->RL h Lf0 true vs args->Calls P f vs.toArray w fun en w' =>
  ∃ v r h',en=.returned v/\post r/\(∀ b o v,h' b o=some v->w'.cell? ⟨b,o,none⟩=some v/\v.oneCell'=true)/\(∀ b o v,h b o=some v->h' b o=some v) /\
   (∀ b o,h b o=none->h' b o≠none->w.heap.size<=b)/\Same w w'/\RV h' Lf0 true v r
section
variable {P:Program}{g:Std}
theorem Ct.toH{f:FuncId}{args:LY}{sto:LB}{post:AV->LB->Prop}(hc:Ct P f args sto post):CtH P g f args sto post:=⟨hc.1,fun h ρ w vs _ m r=>hc.2 h ρ w vs m r⟩
theorem Pc.toH{f:FuncId}{args:LY}{post:AV->Prop}(hc:Pc P f args post):PcH P g f args post:=⟨hc.1,fun h w vs _ m r=>hc.2 h w vs m r⟩
theorem AiE{f:FuncId}{fn:Func}{body:Code}{N:Nat}{args:LY}{sto:LB}{post:AV->LB->Prop}(hf:P.funcs[f]? = some fn)(hb:fn.body=some body)(hn:fn.ntmps=N)(hx:AaB P f=true)
  (ha:args.length<=N) (h:∀ h ρ w,Le g w ρ->Mine h ρ sto w->AWp ⟨P,fn,h,ρ,sto,w,post,X0,stb0⟩ [.code body] (args0 0 args) sto):CtH P g f args sto post:=by
 refine⟨hx,fun hh ρ w vs hg hm hv=>?_⟩;refine calls_of_wp hf hb ?_;have hlen:=hv.length;have hsim:Sim ⟨P,fn,hh,ρ,sto,w,post,X0,stb0⟩ (args0 0 args) sto { tmps:=vs.toArray++Array.replicate (fn.ntmps-vs.toArray.size) undef,defers:=[] } w:=by
  refine⟨hh,ρ,hm,.refl ..,fun t=>?_,rfl,by grind,trivial⟩;rw[AfD];simp only[lbq,if_true,Nat.sub_zero];have h1:=hv.getD t undef
  by_cases ht:t<vs.length
  .have:(vs.toArray++Array.replicate (fn.ntmps-vs.toArray.size) undef).getD t undef=vs.getD t undef:=by
    simp_all[Array.getElem?_append]
   grind
  .have:args.getD t .any=.any:=by grind
   rw[this]; exact .any _
 have:=h hh ρ w hg hm _ w hsim;refine Code.wp_mono ?_ (show body.wp P (WQ ⟨P,fn,hh,ρ,sto,w,post,X0,stb0⟩ []) _ w from this);intro en a' w' hq
 cases en with
 | normal=>obtain⟨hd,v,r,s,h',ρ',h1,h2⟩:=hq; exact⟨hd,v,h1,v,r,s,h',ρ',rfl,h2⟩
 | ret=>obtain⟨hd,v,r,s,h',ρ',h1,h2⟩:=hq; exact⟨hd,v,h1,v,r,s,h',ρ',rfl,h2⟩
 | _=>exact hq.elim
theorem AdH{f:FuncId}{fn:Func}{body:Code}{N:Nat}{args:LY}{sto:LB}{post:AV->LB->Prop}(hf:P.funcs[f]? = some fn)(hb:fn.body=some body)(hn:fn.ntmps=N)(hx:AaB P f=true)
  (ha:args.length<=N) (h:∀ h ρ w,Le g w ρ->AWp ⟨P,fn,h,ρ,sto,w,post,X0,stb0⟩ [.code body] (args0 0 args) sto):CtH P g f args sto post:=by grind[AiE]
theorem AbW{f:FuncId}{args:LY}{post:AV->Prop}(hc:CtH P g f args [] (fun r _=>post r/\nr2 r=true)):PcH P g f args post:=by
 refine⟨hc.1,fun h w vs hg hm hv=>?_⟩;have hmine:Mine h (fun _=>none) [] w:=⟨hm,fun id blk e=>by grind,fun _ _=>rfl,fun i j g t t' e=>by grind,fun i g t e=>by grind⟩;refine(hc.2 h (fun _=>none) w vs (fun k o e=>⟨hg k o e,fun i t hi=>by grind⟩) hmine (hv.thaw (fun _ _ _ x=>x))).mono ?_;rintro en w' ⟨v,r,s,h',ρ',rfl,⟨hp,hn⟩,hm',hl,rv⟩;exact⟨v,r,h',rfl,hp,hm'.mem,hl.hle,fun b o e n=>by
  rcases hl.hnew b o e n with⟨j,t,hj⟩|hs<;>grind,⟨hl.os,hl.tape,hl.output,hl.size,fun k hk=>hl.block k hk (fun i t e=>by grind)⟩,AyE rv hn⟩
theorem PcH.cth{f:FuncId}{args:LY}{post:AV->Prop}(hc:PcH P g f args post)(ha:args.all nr1=true)(sto:LB):CtH P g f args sto (fun r s=>post r/\s=sto):=by
 refine⟨hc.1,fun h ρ w vs hg hm hv=>?_⟩;refine(hc.2 h w vs (fun k o e=>(hg k o e).1) hm.mem (AgJ hv ha)).mono ?_;rintro en w' ⟨v,r,h',rfl,hp,hm',hle,hnew,hs,rv⟩;refine⟨v,r,sto,h',ρ,rfl,⟨hp,rfl⟩,⟨hm',?_,hm.out,hm.inj,?_⟩,⟨hle,fun b o e n=>.inr (hnew b o e n),fun _ _ x=>x,hs.os,hs.tape,hs.output,hs.size,fun k hk _=>hs.block k hk,fun i _ t x=>.inl ⟨i,t,x⟩⟩,rv.thaw (fun _ _ _ x=>x)⟩
 .exact fun id blk e=>(hm.own id blk e).mono hle (fun _ _ x=>x) rfl (fun g t hg=>hs.block g (hm.lt hg))
 .intro i g t e o
  have hlt:=hm.lt e;have hd:=hm.disj i g t e o
  grind
variable {c:Cx}{k:List It}{e:Env}{s:LB}
theorem A4G(hg:Le g c.w c.ρ){f:FuncId}{args:LY}{d:Option Tmp}{all os:List Oper}{post:AV->LB->Prop}(hc:CtH c.P g f args s post){N:Nat}(hN:c.fn.ntmps=N)(hd:dOk N d=true)
  (hk:∀ r s',post r s'->AWp c (.ops all os::k) (put e d r) s'):AcW c f args d all os k e s:=by
 intro a w h ρ vs hm hl he hdf hsz hX hv;refine⟨hc.1,(hc.2 h ρ w vs (hg.later hl) hm hv).mono ?_⟩;rintro en w' ⟨v,r,s',h',ρ',rfl,hp,hm',hlt,rv⟩;have he':EnvOk h' ρ' s' e a:=fun t=>(he t).mono hlt.hle hlt.keep
 exact hk r s' hp _ _ ⟨h',ρ',hm',hl.trans hlt,he'.put (by grind) rv,by grind[AaC],by grind[AaL],c.hx.later hm hlt hX⟩
theorem BeA(hg:Le g c.w c.ρ){f:FuncId}{args:LY}{d:Option Tmp}{all os:List Oper}{post:AV->Prop}(hc:PcH c.P g f args post)(ha:args.all nr1=true){N:Nat}(hN:c.fn.ntmps=N)(hd:dOk N d=true)
  (hk:∀ r,post r->AWp c (.ops all os::k) (put e d r) s):AcW c f args d all os k e s :=
 A4G hg (hc.cth ha s) hN hd fun r s' ⟨hp,hs⟩=>by subst hs; exact hk r hp
theorem ApK(hg:Le g c.w c.ρ){f:FuncId}{args:LY}{d:Option Tmp}{all os:List Oper}{r:AV}(hc:PcH c.P g f args (· = r))(ha:args.all nr1=true){N:Nat}(hN:c.fn.ntmps=N)(hd:dOk N d=true)
  (hk:AWp c (.ops all os::k) (put e d r) s):AcW c f args d all os k e s :=
 by grind[BeA]
theorem PcH.at(hg:Le g c.w c.ρ){f:FuncId}{args:LY}{cv:AV}(hc:PcH c.P g f args (· = cv)):PcAt c f args cv :=
 ⟨hc.1,fun h w vs hb m r=>hc.2 h w vs (fun k o e=>by
  obtain⟨h1,h2⟩:=hg k o e
  grind) m r⟩
theorem PcH.mono{f:FuncId}{args:LY}{post post':AV->Prop}(hc:PcH P g f args post)(hp:∀ r,post r->post' r):PcH P g f args post' :=
 ⟨hc.1,fun h w vs hg hm hv=>(hc.2 h w vs hg hm hv).mono fun _ _ ⟨v,r,h',a,b,rest⟩=>⟨v,r,h',a,hp r b,rest⟩⟩
def McH(P:Program)(g:Std)(f:FuncId)(e:Nat)(agg:AV)(args:LY)(post:AV->AV->Prop):Prop :=
 CtH P g f (.ptr 0 1 0 0::args) [.arr e [agg]] (fun r s=>∃ agg' junk,s=.arr e [agg']::junk/\post r agg'/\nr2 r=true/\nr1 agg'=true)
theorem Mc.toH{f:FuncId}{e:Nat}{agg:AV}{args:LY}{post:AV->AV->Prop}(hc:Mc P f e agg args post):McH P g f e agg args post:=Ct.toH hc
section
variable {h:Mem}{ρ:Own}{sto:LB}{w:World}
theorem McH.ct{f:FuncId}{e:Nat}{agg:AV}{args:LY}{post:AV->AV->Prop}(hc:McH P g f e agg args post)(ha:args.all nr1=true)(hg:nr1 agg=true){id:Nat}(hid:sto[id]? = some (.arr e [agg])) :
  CtH P g f (.ptr id 1 0 0::args) sto (fun r s=>∃ agg',post r agg'/\nr1 agg'=true/\s=sto.set id (.arr e [agg'])):=by
 refine⟨hc.1,fun h ρ w vs hg0 m hv=>?_⟩
 cases hv with
 | @cons _ v0 _ vs _ r0 rs =>
  have hl:=(AcE r0).2;simp only[LfC,hid]at hl;obtain⟨_,gb,tot,h1,h2⟩:=hl.2 rfl;have hown:=m.own id _ hid
  rcases hown with⟨hn,_⟩|⟨g',tot',cur,tt,i3,i4,i5,i6,i7,i8,i9,i10,i11⟩
  .grind
  rw[h1]at i3;obtain⟨rfl,rfl⟩:=i3
  let ρ0:=fun i=>if i=0 then some (gb,tot) else none
  have hρ0:∀ i b t,ρ0 i=some (b,t)->i=0/\b=gb/\t=tot:=by
   grind
  have m0:Mine h ρ0 [.arr e [agg]] w:=by
   refine⟨m.mem,?_,?_,?_,?_⟩
   .intro i blk hb
    match i,hb with
    | 0,hb =>
     simp at hb; subst hb
     refine .inr ⟨gb,tot,cur,tt,rfl,i4,i5,i6,i7,i8,i9,i10,?_⟩;simp only[flat,lbg]at i11 |-;exact(AhB hg i11 (Lf':=Lf ρ0 [.arr e [agg]])).thaw (fun _ _ _ x=>x)
    | i+1,hb=>grind
   .grind
   .grind
   .intro i b t hi o
    obtain⟨_,rfl,_⟩:=hρ0 i b t hi;exact m.disj id _ _ h1 o
  have hp0:RV h (Lf ρ0 [.arr e [agg]]) false v0 (.ptr 0 1 0 0):=by
   refine .leaf ⟨(AcE r0).1,?_⟩<;>grind[LfC]
  refine(hc.2 h ρ0 w (v0::vs) (fun k o e=>⟨(hg0 k o e).1,fun i t hi=>by obtain⟨_,rfl,_⟩:=hρ0 i k t hi; exact(hg0 k o e).2 id tot h1⟩) m0 (.cons hp0 ((AgJ rs ha (Lf':=Lf ρ0 [.arr e [agg]])).thaw (fun _ _ _ x=>x)))).mono ?_;rintro en w' ⟨v,r,s',h',ρ',rfl,⟨agg',junk,rfl,hp,hnr,hna⟩,m',l',rv⟩;have hk1:=l'.keep (.slice (some ⟨gb,0*e,none⟩) 1 (tot-0)) (.sl 0 0 1 1) ⟨rfl,by grind[LfC]⟩;have hρ':ρ' 0=some (gb,tot):=by
   have hk:=hk1.2
   grind[LfC]
  have hset:∀ v a,Lf ρ sto v a->Lf ρ (sto.set id (.arr e [agg'])) v a:=fun v a lf=>⟨lf.1,AbK hid (fun _ _=>rfl) (Or.inl ⟨rfl,rfl,rfl⟩) lf.2⟩
  have hlt:=(List.getElem?_eq_some_iff.1 hid).1;refine⟨v,r,_,h',ρ,rfl,⟨agg',hp,hna,rfl⟩,⟨m'.mem,?_,?_,m.inj,?_⟩,⟨l'.hle,?_,hset,l'.os,l'.tape,l'.output,l'.size,?_,fun i _ t x=>.inl ⟨i,t,x⟩⟩,(AyE rv hnr (Lf':=Lf0)).thaw (fun _ _ _ x=>x)⟩
  .intro j blk hb
   by_cases hj:j=id
   .subst hj
    simp[hlt]at hb
    subst hb
    rcases m'.own 0 _ rfl with⟨hn,_⟩|⟨g2,tot2,cur2,tt2,k3,k4,k5,k6,k7,k8,k9,k10,k11⟩
    .grind
    rw[hρ']at k3
    simp at k3
    obtain⟨rfl,rfl⟩:=k3;refine .inr ⟨gb,tot,cur2,tt2,h1,k4,k5,k6,k7,k8,k9,k10,?_⟩;simp only[flat,lbg]at k11 |-;exact(AhB hna k11 (Lf':=Lf0)).thaw (fun _ _ _ x=>x)
   .rw [lax (Ne.symm hj)]at hb
    refine(m.own j blk hb).mono l'.hle hset rfl (fun gj t hgj=>l'.block gj (m.lt hgj) fun i t' hi=>?_);obtain⟨_,rfl,_⟩:=hρ0 i gj t' hi;exact hj (m.inj j id _ _ _ hgj h1)
  .intro i hi
   simp at hi
   exact m.out i hi
  .intro i gi t hi o
   by_cases hj:i=id
   .subst hj
    rw[h1]at hi
    simp at hi
    obtain⟨rfl,rfl⟩:=hi;exact m'.disj 0 _ _ hρ' o
   .have hd:=m.disj i gi t hi o
    cases hq:h' gi o with
    | none=>rfl
    | some u =>
     rcases l'.hnew gi o hd (by grind)with⟨j,t',hj'⟩|hs
     .obtain ⟨_,rfl,_⟩:=hρ0 j gi t' hj'
      exact(hj (m.inj i id _ _ _ hi h1)).elim
     .have:=m.lt hi; omega
  .intro b o hb hb'
   rcases l'.hnew b o hb hb' with⟨j,t',hj'⟩|hs<;>grind
  .intro k hk hno
   exact l'.block k hk fun i t hi=>by
    grind
end
theorem A4H(hg:Le g c.w c.ρ){f:FuncId}{es:Nat}{agg:AV}{args:LY}{d:Option Tmp}{all os:List Oper}{post:AV->AV->Prop}(hc:McH c.P g f es agg args post)(ha:args.all nr1=true)(hgg:nr1 agg=true){id:Nat}(hid:s[id]? = some (.arr es [agg])){N:Nat}(hN:c.fn.ntmps=N)(hd:dOk N d=true)
  (hk:∀ r agg',post r agg'->AWp c (.ops all os::k) (put e d r) (s.set id (.arr es [agg']))):AcW c f (.ptr id 1 0 0::args) d all os k e s :=
 A4G hg (hc.ct ha hgg hid) hN hd fun r s' ⟨agg',hp,_,hs⟩=>by subst hs; exact hk r agg' hp
end
end Go.Av
namespace Go.Av
open RowKit
variable [Tr]
def sideIs:Res->AV->Prop
 | .side p u,v=>p/\v=u
 | _,_=>False
def BaX(P:Program)(e:Env)(s:LB):List ResultVar->LY->Prop
 | [],[]=>True
 | .tmp t::r,v::l=>v=get e t/\BaX P e s r l
 | .cell a t::r,v::l=>sideIs (xload (P.underlying t) (tsize P t) s (get e a)) v/\BaX P e s r l
 | _,_=>False
def resT:LY->AV
 | [v]=>v
 | l=>.tup l
theorem AsA{P:Program}{w:World}{t:TypeId}{u v:Value}(h:(Instr.loadAt t u).run P w=.ok v w):(do loadVar t (<- asAddr u):Sem Value).run P w=.ok v w:=by
 cases u with
 | pointer a =>
  cases a with
  | some a=>exact h
  | none=>simp_all[Instr.loadAt,Instr.sureAddr]
 | _=>simp_all[Instr.loadAt,Instr.sureAddr]
section
variable {c:Cx}{e:Env}{s:LB}
def resF(tmps:Array Value):ResultVar->Sem Value
 | .tmp t=>pure (tmps.getD t undef)
 | .cell a t=>do loadVar t (<- asAddr (tmps.getD a undef))
theorem AeP{h:Mem}{ρ:Own}{a:Act}{w:World}(m:Mine h ρ s w)(he:EnvOk h ρ s e a):∀ {rs:List ResultVar}{vals:LY},BaX c.P e s rs vals ->
  ∃ vs:List Value,(rs.mapM (resF a.tmps)).run c.P w=.ok vs w/\RL h (Lf ρ s) false vs vals
 | [],[],_=>⟨[],by simp_all,.nil⟩
 | .tmp t::r,v::l,hv=>by
  obtain⟨rfl,hr⟩:=hv;obtain⟨vs,h1,h2⟩:=AeP m he hr;refine⟨a.tmps.getD t undef::vs,?_,.cons (he t) h2⟩;rw[List.mapM_cons,Sem.run_bind];simp only[resF,Sem.run_pure,Result.andThen_ok,Sem.run_bind,h1]
 | .cell b t::r,v::l,hv=>by
  obtain⟨h0,hr⟩:=hv;obtain⟨vs,h1,h2⟩:=AeP m he hr;have hl:=BaD (P:=c.P) (t:=t) m (he b);unfold sideIs at h0
  revert h0 hl
  cases xload (c.P.underlying t) (tsize c.P t) s (get e b) <;> intro h0 hl <;> try grind
  obtain⟨hp,rfl⟩:=h0;obtain⟨u,hu,ru⟩:=hl hp;have hu':=AsA hu;refine⟨u::vs,?_,.cons ru h2⟩<;>grind[Sem.run_bind,resF,Result.andThen_ok,Sem.run_pure]
 | [],_::_,hv=>hv.elim
 | .tmp _::_,[],hv=>hv.elim
 | .cell _ _::_,[],hv=>hv.elim
def tupV:List Value->Value
 | [v]=>v
 | l=>.tuple l.toArray
theorem A0U{fn:Func}(rs:List ResultVar)(hr:fn.results=rs.toArray)(tmps:Array Value){P:Program}{w:World}{vs:List Value}(h:(rs.mapM (resF tmps)).run P w=.ok vs w) :
  (results fn tmps).run P w=.ok (tupV vs) w:=by
 have e:results fn tmps=(do let vs <- fn.results.mapM (resF tmps); pure (if h:vs.size=1 then vs[0] else .tuple vs)):=rfl;rw[e,hr,Sem.run_bind,List.mapM_toArray]
 erw [Sem.run_bind]
 rw[h]
 match vs with
 | []=>rfl
 | [v]=>rfl
 | v::u::r=>simp_all[tupV]
theorem AbU(rs:List ResultVar)(hr:c.fn.results=rs.toArray)(vals:LY)(hv:BaX c.P e s rs vals)(hp:c.post (resT vals) s):ARet c e s:=by
 rintro a w ⟨hh,ρ,hm,hl,he,hdf,hsz,_⟩;obtain⟨vs,h1,h2⟩:=AeP hm he hv;refine⟨hdf,tupV vs,resT vals,s,hh,ρ,?_,hp,hm,hl,?_⟩
 .grind[A0U]
 .cases h2 with
  | nil=>exact .tup _ _ .nil
  | cons r1 r2 =>
   cases r2 with
   | nil=>exact r1
   | cons r2 r3=>exact .tup _ _ (.cons r1 (.cons r2 r3))
end
end Go.Av
namespace Go.Av
open RowKit
structure Fr(w w':World)(b:Nat)(r:Option Nat):Prop where
 os:w'.os=w.os
 tape:w'.tape=w.tape
 output:w'.output=w.output
 size:w.heap.size<=w'.heap.size
 block:∀ k,k<w.heap.size->k≠b->some k≠r->w'.heap[k]? = w.heap[k]?
def Lone(h:Mem)(ρ:Own)(b:Nat):Prop:=(∀ i t,ρ i≠some (b,t))/\∀ o,h b o=none
def rowOf(w:World)(b:Nat):Option Nat:=(w.cell? ⟨b,1,none⟩).bind Value.ownBlock
def BldA(T e:TypeId)(B b:Nat)(l:LU)(h:Mem)(ρ:Own)(w:World):Prop :=
 Lib.IsBuilder T e B b (Lib.byteCells l) w/\Lone h ρ b/\∀ r,rowOf w b=some r->Lone h ρ r
section
variable {h h':Mem}{ρ ρ':Own}{sto sto':LB}{w w':World}{T e:TypeId}{B b:Nat}{l:LU}
theorem Lone.later(m:Mine h ρ sto w)(x:Later h ρ sto w h' ρ' sto' w'){k:Nat}(hk:k<w.heap.size)(a:Lone h ρ k):Lone h' ρ' k:=by
 refine⟨fun i t hi=>?_,fun o=>?_⟩
 .rcases x.newown i k t hi with⟨j,t',hj⟩|hs
  .exact a.1 j t' hj
  omega
 .cases hq:h' k o with
  | none=>rfl
  | some v =>
   rcases x.hnew k o (a.2 o) (by grind)with⟨j,t',hj⟩|hs
   .exact (a.1 j t' hj).elim
   omega
theorem AhC(hb:Lib.IsBuilder T e B b (Lib.byteCells l) w):∃ p v,(p=.pointer none\/p=.pointer (some ⟨b,0,none⟩))/\B<=b/\w.heap[b]? = some (.cells #[p,v] T (0,0))/\w.ownsRow B e 1 v (Lib.byteCells l).length (Lib.byteCells l)/\v.ownBlock≠some b /\
  rowOf w b=v.ownBlock:=by
 rcases hb with⟨h1,v,h2,h3,h4⟩|⟨h1,v,h2,h3,h4⟩<;>grind[rowOf,World.cell?]
theorem BeB{p v:Value}(hp:p=.pointer none\/p=.pointer (some ⟨b,0,none⟩))(h1:B<=b)(h2:w.heap[b]? = some (.cells #[p,v] T (0,0)))(h3:w.ownsRow B e 1 v (Lib.byteCells l).length (Lib.byteCells l))(h4:v.ownBlock≠some b) :
  Lib.IsBuilder T e B b (Lib.byteCells l) w:=by
 rcases hp with rfl|rfl
 .exact .inl ⟨h1,v,h2,h3,h4⟩
 .exact .inr ⟨h1,v,h2,h3,h4⟩
theorem AsB{v:Value}{n:Nat}{xs:List Value}(hr:∀ k,v.ownBlock=some k->w'.heap[k]? = w.heap[k]?)(x:w.ownsRow B e 1 v n xs):w'.ownsRow B e 1 v n xs:=by
 refine⟨x.1,?_⟩
 rcases x.2 with h|⟨g,cap,cur,rfl,h2,h3,h4⟩
 .grind
 .exact .inr ⟨g,cap,cur,rfl,h2,(hr g rfl).trans h3,h4⟩
theorem ApL(T e:TypeId)(B b:Nat)(l:LU):Stb (BldA T e B b l) where
 later:=by
  rintro h ρ sto w h' ρ' sto' w' m x ⟨h1,h2,h3⟩;obtain⟨p,v,p1,p2,p3,p4,p5,p6⟩:=AhC h1;have hb:=(Array.getElem?_eq_some_iff.1 p3).1;have hrow:∀ k,v.ownBlock=some k->k<w.heap.size/\Lone h ρ k:=fun k hk=>⟨(p4.lt k hk).2,h3 k (by grind)⟩
  have e1:=x.block b hb h2.1;have e2:=fun k hk=>x.block k (hrow k hk).1 (hrow k hk).2.1
  have p3':=e1.trans p3;refine⟨BeB p1 p2 p3' (AsB e2 p4) p5,h2.later m x hb,fun r hr=>?_⟩;have:rowOf w' b=v.ownBlock:=by grind[rowOf,World.cell?]
  rw[this]at hr;exact(hrow r hr).2.later m x (hrow r hr).1
 fewer:=by
  rintro h ρ ρ' w hf ⟨h1,h2,h3⟩;have key:∀ k,Lone h ρ k->Lone h ρ' k:=fun k a=>⟨fun i t hi=>by
   obtain⟨j,t',hj⟩:=hf i k t hi;exact a.1 j t' hj,a.2⟩
  exact⟨h1,key b h2,fun r hr=>key r (h3 r hr)⟩
theorem WQ_x(c:Cx)(x:Mem->Own->World->Prop)(hx:Stb x):∀ k,WQ { c with x:=x,hx:=hx } k=WQ c k
 | []=>by funext ex a w; cases ex <;> rfl
 | y::k=>by
  have ih:=WQ_x c x hx k
  funext ex a w
  cases ex <;> cases y <;> simp only[WQ,ih]
variable {c:Cx}{k:List It}{en:Env}{s:LB}
theorem BeC{o:Oper}{all os:List Oper}{t:Tmp}{i:TypeInfo}(ho:o.op=.alloc T)(hg:o.guard=none)(hd:o.dst=some t){N:Nat}(hN:c.fn.ntmps=N)(hdt:t<N)(hi:c.P.info? T=some i)
  (hz:i.zero=some (.agg #[.pointer none,.slice none 0 0])) (e:TypeId)
  (hk:∀ b,c.w.heap.size<=b->AWp { c with x:=BldA T e c.w.heap.size b [],hx:=ApL T e c.w.heap.size b [] } (.ops all os::k) (put en (some t) (.raw (.pointer (some ⟨b,0,none⟩)))) s) :
  AWp c (.ops all (o::os)::k) en s:=by
 rintro a w ⟨h,ρ,hm,hl,he,hdf,hsz,hX⟩;have hr:(execOp a.eval o).run c.P w=.ok (.value (.pointer (some ⟨w.heap.size,0,none⟩))) (w.alloc (.cells #[.pointer none,.slice none 0 0] T)):=by
  simp_all[execOp,Instr.alloc,zeroValue,typeInfo,newVar,newRow,Value.cells]
 have sm:=Same.alloc w (.cells #[.pointer none,.slice none 0 0] T);have hb:(w.alloc (.cells #[.pointer none,.slice none 0 0] T)).heap[w.heap.size]? = some (.cells #[.pointer none,.slice none 0 0] T (0,0)):=heap_alloc_new w _;have hlone:Lone h ρ w.heap.size:=⟨fun i t hi=>by have:=hm.lt hi; omega,fun o=>by
  cases hq:h w.heap.size o with
  | none=>rfl
  | some v=>have:=hm.memlt hq; omega⟩
 have hbld:BldA T e c.w.heap.size w.heap.size [] h ρ (w.alloc (.cells #[.pointer none,.slice none 0 0] T)):=by
  refine⟨BeB (.inl rfl) hl.size hb ⟨rfl,.inl ⟨rfl,rfl⟩⟩ (by simp[Value.ownBlock]),hlone,fun r hr=>?_⟩<;>grind[Value.ownBlock,rowOf,World.cell?]
 have:=hk w.heap.size hl.size (a.put (some t) (.pointer (some ⟨w.heap.size,0,none⟩))) (w.alloc (.cells #[.pointer none,.slice none 0 0] T))
  ⟨h,ρ,hm.same sm,hl.trans (Later.same sm),he.put (by grind[dOk]) (.raw _),by grind[AaC],by grind[AaL],hbld⟩
 rw[WQ_x]at this
 show wpList c.P all.toArray (WQ c k) (o::os) a w
 unfold wpList;rw[if_pos (by grind[Region.wanted])];refine .inl ?_;unfold Oper.wp;rw[hr]
 show wpList c.P all.toArray (WQ c k) os (a.put o.dst _) _
 rw[hd];exact this
theorem Mine.fr(m:Mine h ρ sto w){r:Option Nat}(f:Fr w w' b r)(hb:Lone h ρ b)(hr:∀ k,r=some k->Lone h ρ k):Mine h ρ sto w':=by
 have hne:∀ k,(∃ i t,ρ i=some (k,t))\/(∃ o v,h k o=some v)->k≠b/\some k≠r:=by
  intro k hk;refine⟨fun e=>?_,fun e=>?_⟩
  .subst e
   rcases hk with⟨i,t,hi⟩|⟨o,v,ho⟩
   .exact hb.1 i t hi
   .rw [hb.2 o]at ho; grind
  .have hl:=hr k e.symm
   rcases hk with⟨i,t,hi⟩|⟨o,v,ho⟩
   .exact hl.1 i t hi
   .rw [hl.2 o]at ho; grind
 refine⟨fun k o v e=>?_,fun id blk e=>?_,m.out,m.inj,m.disj⟩
 .obtain ⟨h1,h2⟩:=hne k (.inr ⟨o,v,e⟩)
  exact⟨(World.cell?_of_block (f.block k (m.memlt e) h1 h2)).trans (m.mem k o v e).1,(m.mem k o v e).2⟩
 .exact (m.own id blk e).mono (fun _ _ _ x=>x) (fun _ _ x=>x) rfl (fun g t hg=>f.block g (m.lt hg) (hne g (.inl ⟨id,t,hg⟩)).1 (hne g (.inl ⟨id,t,hg⟩)).2)
def A4I(P:Program)(f:FuncId)(T e:TypeId):Prop:=AaB P f=true/\∀ (B b:Nat)(bs:List Value)(s:ByteArray)(w:World),Lib.IsBuilder T e B b bs w->bs.length+s.size<=140737488355328->B<=w.heap.size ->
 Calls P f #[.pointer (some ⟨b,0,none⟩),.string s] w fun en w'=>en=.returned (.tuple #[.int .i64 s.size,.nilIface])/\Lib.BuilderAt T e B b (.pointer (some ⟨b,0,none⟩)) (bs++Lib.strCells s) w'/\Fr w w' b (rowOf w b) /\
  ∀ r,rowOf w' b=some r->rowOf w b=some r\/w.heap.size<=r
theorem AsC{f:FuncId}(hw:A4I c.P f T e){x:LU}{d:Option Tmp}{all os:List Oper}(hx:c.x=BldA T e B b l)(hB:B=c.w.heap.size){N:Nat}(hN:c.fn.ntmps=N)(hd:dOk N d=true)(hlen:l.length+x.length<=140737488355328)
  (hk:AWp { c with x:=BldA T e B b (l++x),hx:=ApL T e B b (l++x) } (.ops all os::k) (put en d (.tup [.int .i64 x.length,.raw .nilIface])) s) :
  AcW c f [.raw (.pointer (some ⟨b,0,none⟩)),.str x] d all os k en s:=by
 intro a w h ρ vs hm hl he hdf hsz hX hv;rw[hx]at hX;obtain⟨h1,h2,h3⟩:=hX;refine⟨hw.1,?_⟩;have hvs:vs=[.pointer (some ⟨b,0,none⟩),.string ⟨x.toArray⟩]:=by
  cases hv with|cons r1 r2=>cases r2 with|cons r2 r3=>cases r3<;>grind[inv_raw,AbB]
 subst hvs;obtain⟨p,v,p1,p2,p3,p4,p5,p6⟩:=AhC h1;refine(hw.2 B b _ ⟨x.toArray⟩ w h1 (by rw[Lib.byteCells_length]; exact hlen) (by grind)).mono ?_;rintro en' w' ⟨rfl,hb,hf,hnew⟩;have hm':=hm.fr hf h2 h3;have hrow:∀ r,rowOf w b=some r->B<=r:=fun r hr=>by rw[p6]at hr; exact(p4.lt r hr).1
 have hl':Later c.h c.ρ c.sto c.w h ρ s w':=⟨hl.hle,hl.hnew,hl.keep,hf.os.trans hl.os,hf.tape.trans hl.tape,⟨hf.output.trans hl.output.1,trivial⟩,Nat.le_trans hl.size hf.size,fun k' hk' hno=>by
  rw[hf.block k' (lcd hk' hl.size) (by omega) (fun e=>by grind)];exact hl.block k' hk' hno,hl.newown⟩
 have hcells:Lib.byteCells l++Lib.strCells ⟨x.toArray⟩=Lib.byteCells (l++x):=by grind[Lib.byteCells,Lib.strCells]
 rw[hcells]at hb;have hbd:BldA T e B b (l++x) h ρ w':=by
  have hbi:Lib.IsBuilder T e B b (Lib.byteCells (l++x)) w':=.inr hb;refine⟨hbi,h2,fun r hr=>?_⟩
  rcases hnew r hr with hold|hrs
  .grind
  .exact ⟨fun i t hi=>by have:=hm.lt hi; omega,fun o=>by
    cases hq:h r o with
    | none=>rfl
    | some v=>have:=hm.memlt hq; omega⟩
 have:=hk (a.put d _) w' ⟨h,ρ,hm',hl',he.put (by grind) (.tup _ _ (.cons (.int _ _) (.cons (.raw _) .nil))),by grind[AaC],by grind[AaL],hbd⟩;rw[WQ_x]at this;exact this
def AvP(P:Program)(f:FuncId)(T e:TypeId):Prop:=AaB P f=true/\∀ (B b:Nat)(l:LU)(w:World),Lib.IsBuilder T e B b (Lib.byteCells l) w->B<=w.heap.size ->
 Calls P f #[.pointer (some ⟨b,0,none⟩)] w fun en w'=>en=.returned (.string ⟨l.toArray⟩)/\Below B w w'
theorem A4J{f:FuncId}(hw:AvP c.P f T e){d:Option Tmp}{all os:List Oper}(hx:c.x=BldA T e B b l)(hB:B=c.w.heap.size)(hs0:c.sto=[])(hm0:Mine c.h c.ρ c.sto c.w){N:Nat}(hN:c.fn.ntmps=N)(hd:dOk N d=true)
  (hk:AWp { c with x:=X0,hx:=stb0 } (.ops all os::k) (put [] d (.str l)) []) :
  AcW c f [.raw (.pointer (some ⟨b,0,none⟩))] d all os k en s:=by
 intro a w h ρ vs hm hl he hdf hsz hX hv;rw[hx]at hX;obtain⟨h1,h2,h3⟩:=hX;refine⟨hw.1,?_⟩;have hvs:vs=[.pointer (some ⟨b,0,none⟩)]:=by
  cases hv with|cons r1 r2=>cases r2; grind[inv_raw]
 subst hvs;refine(hw.2 B b l w h1 (by have:=hl.size; omega)).mono ?_;rintro en' w' ⟨rfl,hb⟩;have hρ0:=fun i=>hm0.out i (by grind)
 have hcell:∀ k',k'<c.w.heap.size->w'.heap[k']? = c.w.heap[k']?:=fun k' hk'=>by
  rw[hb.block k' (by omega)];exact hl.block k' hk' (fun i t hi=>by grind)
 have hmine:Mine c.h (fun _=>none) [] w':=by
  refine⟨fun k' o v e'=>?_,fun id blk e'=>by grind,fun _ _=>rfl,fun i j g t t' e'=>by grind,fun i g t e'=>by grind⟩;exact⟨(World.cell?_of_block (hcell k' (hm0.memlt e'))).trans (hm0.mem k' o v e').1,(hm0.mem k' o v e').2⟩
 have hlat:Later c.h c.ρ c.sto c.w c.h (fun _=>none) [] w':=by
  refine⟨fun _ _ _ x=>x,fun _ _ x y=>(y x).elim,fun v x lf=>?_,hb.os.trans hl.os,hb.tape.trans hl.tape,⟨hb.output.trans hl.output.1,trivial⟩,Nat.le_trans hl.size hb.size,fun k' hk' _=>hcell k' hk',fun i g t e'=>by grind⟩;have:=lf.2;rw[hs0]at this
  cases x <;> simp[LfC]at this
 have:=hk (a.put d (.string ⟨l.toArray⟩)) w' ⟨c.h,fun _=>none,hmine,hlat,?_,by grind[AaC],by grind[AaL],trivial⟩
 .rw [WQ_x]at this
  omega
 .have he0:EnvOk c.h (fun _=>none) [] [] a:=fun t=>.any _
  exact he0.put (by grind) (.str _)
end
theorem ApM{c0 c:Cx}{B:Code}{k:List It}{e:Env}{s:LB}(hc:c={ c0 with x:=c.x,hx:=c.hx })(h:AHd c B k e s):AWp c (.inv (Hd c0.P B (WQ c0 k))::k) e s:=fun a w hs=>by
 have h1:=h a w hs
 grind[WQ,WQ_x]
