/- A block of one's own that is frozen, told anew wherever a reference to it stands. -/
import Derived.Test.YtccfklnmolggiaaGreatDoorZ10
set_option linter.all false
namespace Go.Av
open RowKit
variable [Tr]
section
variable {h:Mem}{ρ:Own}{sto:LB}{w:World}{P:Program}
theorem Mine.freeze'(m:Mine h ρ sto w){id e:Nat}{l:LY}(hb:sto[id]? = some (.arr e l))(hf:(flat l).all frozen=true) :
  ∃ h' ρ',(∀ i,i≠id->ρ' i=ρ i)/\Mine h' ρ' (sto.set id .dead) w/\Later h ρ sto w h' ρ' (sto.set id .dead) w /\
   (∀ v off len cap,LfC ρ sto v (.sl id off len cap)->off+cap=l.length->len<=cap->RV h' (Lf ρ' (sto.set id .dead)) false v (.fz e ((l.drop off).take len))) /\
   (∀ v k off,LfC ρ sto v (.ptr id l.length k off)->RV h' (Lf ρ' (sto.set id .dead)) false v (.pin e l k off)):=by
 have hid:=(List.getElem?_eq_some_iff.1 hb).1
 rcases m.own id _ hb with⟨rfl,hn⟩|⟨g,tot,cur,t,h3,h4,h5,h6,h7,h8,h9,h10,h11⟩
 .have hk:∀ v a,Lf ρ sto v a->Lf ρ (sto.set id .dead) v a:=fun v a l=>⟨l.1,AbK hb (fun _ _=>rfl) trivial l.2⟩
  refine⟨h,ρ,fun _ _=>rfl,⟨m.mem,?_,fun i hi=>m.out i (by grind),m.inj,m.disj⟩,⟨fun _ _ _ x=>x,fun _ _ a b=>(b a).elim,hk,rfl,rfl,⟨rfl,Tr.same rfl⟩,lab _,fun _ _ _=>rfl,fun i _ t x=>.inl ⟨i,t,x⟩⟩,?_,?_⟩
  .intro i blk e1
   by_cases hi:i=id
   .subst hi
    simp[hid]at e1
    subst e1;exact hn
   .rw [lax (Ne.symm hi)]at e1
    exact(m.own i blk e1).mono (fun _ _ _ x=>x) hk rfl (fun _ _ _=>rfl)
  .intro v off len cap hl hc hlc
   simp only[LfC,hb]at hl
   rcases hl.2 hc with⟨rfl,rfl,a,rfl⟩|⟨g,tot,h1,_⟩
   .cases a with
    | none=>simpa[at0]using RV.fznil e
    | some a=>simpa[at0]using RV.fz a.1 a.2 0 e [] [] .nil (by simp) (by simp) (lab _)
   grind
  grind[LfC]
 .let h':=fun b o=>if b=g then cur.toList[o]? else h b o
  have hle:∀ b o v,h b o=some v->h' b o=some v:=by
   intro b o v e1;have:b≠g:=fun hq=>by subst hq; simp[m.disj id b tot h3 o]at e1
   grind
  have hk:∀ v a,Lf ρ sto v a->Lf (upd ρ id none) (sto.set id .dead) v a:=fun v a l=>⟨l.1,AbK hb (fun i hi=>by grind[upd]) trivial l.2⟩
  have hown:∀ i b t,upd ρ id none i=some (b,t)->i≠id/\ρ i=some (b,t):=by
   grind[upd]
  refine⟨h',upd ρ id none,fun i hi=>by grind[upd],⟨?_,?_,?_,?_,?_⟩,⟨hle,?_,hk,rfl,rfl,⟨rfl,Tr.same rfl⟩,lab _,fun _ _ _=>rfl,fun i b t x=>.inl ⟨i,t,(hown i b t x).2⟩⟩,?_,?_⟩
  .intro b o v e1
   by_cases hq:b=g
   .subst hq
    simp only[h',if_true]at e1;refine⟨?_,h10 v (laj e1)⟩;rw[h4.cell]
    grind
   .simp only [h',hq,if_false]at e1
    exact m.mem b o v e1
  .intro i blk e1
   by_cases hi:i=id
   .grind[OwnB,upd]
   .rw [lax (Ne.symm hi)]at e1
    exact(m.own i blk e1).mono hle hk (by grind[upd]) (fun _ _ _=>rfl)
  .intro i hi
   simp at hi
   simp[upd,m.out i hi]
  .intro i j b t t' hi hj
   exact m.inj i j b t t' (hown i b t hi).2 (hown j b t' hj).2
  .intro i b t hi o
   obtain⟨h1,h2⟩:=hown i b t hi;have:b≠g:=fun hq=>by subst hq; exact h1 (m.inj i id _ _ _ h2 h3)
   simp[h',this,m.disj i b t h2 o]
  .grind
  .intro v off len cap hl hc hlc
   simp only[LfC,hb]at hl;have hfl:=AaP h9;have hcurl:cur.toList.length=tot*e:=by omega
   rcases hl.2 hc with⟨rfl,rfl,a,rfl⟩|⟨g',tot',h1,rfl,_⟩
   .cases a with
    | none=>simpa[at0]using RV.fznil e
    | some a=>simpa[at0]using RV.fz a.1 a.2 0 e [] [] .nil (by simp) (by simp) (lab _)
   .rw [h3]at h1
    simp at h1
    obtain⟨rfl,rfl⟩:=h1;have hlen:((l.drop off).take len).length=len:=by grind
    have hr:RL h' (Lf (upd ρ id none) (sto.set id .dead)) true (((cur.toList.take (l.length*e)).drop (off*e)).take (len*e)) (flat ((l.drop off).take len)):=by
     rw[<- AbI (fun x hx=>h9 x (lbe hx)) len,<- AaU h9 off];exact(((AcI h11 hf).thaw (fun _ _ _ x=>x)).mono hle (fun _ _ x=>x) |>.drop _).take _
    have:=RV.fz (fl:=false) g (off*e) (tot-off) e ((l.drop off).take len) _ hr (fun x hx=>h9 x (lbe (lbh hx))) (fun k v hk=>by
     grind) (by omega)
    grind
  .intro v k off hl
   simp only[LfC,hb]at hl;obtain⟨hk0,g',tot',h1,rfl⟩:=hl.2 trivial;rw[h3]at h1
   simp at h1
   obtain⟨rfl,rfl⟩:=h1;have hr:RL h' (Lf (upd ρ id none) (sto.set id .dead)) true (cur.toList.take (l.length*e)) (flat l):=((AcI h11 hf).thaw (fun _ _ _ x=>x)).mono hle (fun _ _ x=>x);have:=RV.pin (fl:=false) g 0 e l _ k off hr h9 (fun j v hk=>by
    grind) hk0
   grind
def frz1(id e:Nat)(l:LY):AV->AV
 | .sl i off len cap=>bif i==id&&(decide (off+cap=l.length)&&decide (len<=cap)) then .fz e ((l.drop off).take len) else .sl i off len cap
 | .ptr i n k off=>bif i==id&&decide (n=l.length) then .pin e l k off else .ptr i n k off
 | a=>a
def frz(id e:Nat)(l:LY):AV->AV
 | .agg r=>.agg (r.map (frz1 id e l))
 | .fn f r=>.fn f (r.map (frz1 id e l))
 | a=>frz1 id e l a
def frzC(id e:Nat)(l:LY):AV->AV
 | .agg r=>.agg (r.map (frz1 id e l))
 | a=>frz1 id e l a
def frzB(id e:Nat)(l:LY):Blk->Blk
 | .arr es r=>.arr es (r.map (frzC id e l))
 | .mp es=>.mp (es.map fun x=>(x.1,frz id e l x.2))
 | b=>b
theorem frz_cells(id e:Nat)(l:LY)(x:AV):cellsOf (frzC id e l x)=(cellsOf x).map (frz1 id e l):=by
 cases x<;>grind[frzC,frz1,cellsOf]
theorem frz_flat(id e:Nat)(l:LY):∀ r,flat (r.map (frzC id e l))=(flat r).map (frz1 id e l)
 | []=>rfl
 | x::r=>by simp only[lah,flat,frz_cells,frz_flat id e l r,lap]
theorem BgC{ρ:Own}{sto:LB}{v:Value}{a:AV}(id e:Nat)(l:LY)(x:LfC ρ sto v a):LfC ρ (sto.map (frzB id e l)) v a:=by
 cases a with
 | sl i off len cap =>
  simp only[LfC,lbf]at x |-
  cases hq:sto[i]? with
  | none=>grind
  | some b=>rw[hq]at x; cases b <;> simp only[lca,frzB,laa]at x |- <;> exact x
 | ptr i n k off =>
  simp only[LfC,lbf]at x |-
  cases hq:sto[i]? with
  | none=>grind
  | some b=>rw[hq]at x; cases b <;> simp only[lca,frzB,laa]at x |- <;> exact x
 | mp i =>
  simp only[LfC,lbf]at x |-
  cases hq:sto[i]? with
  | none=>grind
  | some b=>rw[hq]at x; cases b <;> simp at x |- <;> exact x
 | _=>exact x
theorem A4K{ρ:Own}{sto:LB}(id e:Nat)(l:LY)(v:Value)(a:AV)(x:Lf ρ sto v a):Lf ρ (sto.map (frzB id e l)) v a:=⟨x.1,BgC id e l x.2⟩
theorem Mine.frz(m:Mine h ρ sto w){id e:Nat}{l:LY}(hb:sto[id]? = some (.arr e l))(hf:(flat l).all frozen=true) :
  ∃ h' ρ',Mine h' ρ' ((sto.set id .dead).map (frzB id e l)) w/\Later h ρ sto w h' ρ' ((sto.set id .dead).map (frzB id e l)) w /\
   ∀ v a,RV h (Lf ρ sto) false v a->RV h' (Lf ρ' ((sto.set id .dead).map (frzB id e l))) false v (frz id e l a):=by
 obtain⟨h',ρ',hr,m',lt,key,keyp⟩:=m.freeze' hb hf;have hkeep:∀ v a,Lf ρ sto v a->Lf ρ' ((sto.set id .dead).map (frzB id e l)) v a:=fun v a x=>A4K id e l v a (lt.keep v a x)
 have k1:∀ v a,RV h (Lf ρ sto) false v a->RV h' (Lf ρ' ((sto.set id .dead).map (frzB id e l))) false v (frz1 id e l a):=by
  intro v a x
  cases a with
  | sl i off len cap =>
   simp only[frz1]
   cases hq:(i==id&&(decide (off+cap=l.length)&&decide (len<=cap)))with
   | false=>exact x.mono lt.hle hkeep
   | true =>
    simp only[lac,lbx,lao]at hq;obtain⟨rfl,h1,h2⟩:=hq;exact(key v off len cap (AaY x).2 h1 h2).mono (fun _ _ _ y=>y) (fun v a y=>A4K i e l v a y)
  | ptr i n k off =>
   simp only[frz1]
   cases hq:(i==id&&decide (n=l.length))with
   | false=>exact x.mono lt.hle hkeep
   | true =>
    simp only[lac,lbx,lao]at hq;obtain⟨rfl,rfl⟩:=hq;exact(keyp v k off (AcE x).2).mono (fun _ _ _ y=>y) (fun v a y=>A4K i e l v a y)
  | _=>exact x.mono lt.hle hkeep
 have kl:∀ (r:LY) (vs:List Value),RL h (Lf ρ sto) false vs r->RL h' (Lf ρ' ((sto.set id .dead).map (frzB id e l))) false vs (r.map (frz1 id e l)):=by
  intro r
  induction r with
  | nil=>intro vs x; cases x; exact .nil
  | cons a r ih=>intro vs x; cases x with|cons x1 x2=>exact .cons (k1 _ _ x1) (ih _ x2)
 have k2:∀ v a,RV h (Lf ρ sto) false v a->RV h' (Lf ρ' ((sto.set id .dead).map (frzB id e l))) false v (Go.Av.frz id e l a):=by
  intro v a x
  cases a with
  | agg r =>
   cases x with
   | leaf p=>exact p.2.elim
   | agg vs _ x=>exact .agg vs _ (kl _ _ x)
  | fn f r =>
   cases x with
   | leaf p=>exact p.2.elim
   | fn _ vs _ x=>exact .fn f vs _ (kl _ _ x)
  | _=>exact k1 _ _ x
 refine⟨h',ρ',⟨m'.mem,?_,fun i hi=>m'.out i (by simpa using hi),m'.inj,m'.disj⟩,⟨lt.hle,lt.hnew,hkeep,lt.os,lt.tape,lt.output,lt.size,lt.block,lt.newown⟩,k2⟩;intro i blk e1
 by_cases hi:i=id
 .subst hi
  have hid:=(List.getElem?_eq_some_iff.1 hb).1;have e2:=m'.own i .dead (by simp[hid])
  simp[lbf,hid,frzB]at e1
  subst e1;exact e2
 .rw [lbf,lax (Ne.symm hi)]at e1
  obtain⟨b,hb',rfl⟩:=Option.map_eq_some_iff.1 e1;have o:=m.own i b hb'
  cases b with
  | arr es r =>
   rcases o with⟨h1,h2⟩|⟨g,tot,cur,t,h1,h2,h3,h4,h5,h6,h7,h8,h9⟩
   .exact .inl ⟨by simp[h1],(hr i hi).trans h2⟩
   .refine .inr ⟨g,tot,cur,t,(hr i hi).trans h1,h2,h3,by simpa using h4,h5,h6,?_,h8,?_⟩
    .intro x hx
     obtain⟨y,hy,rfl⟩:=List.mem_map.1 hx;rw[frz_cells,laa];exact h7 y hy
    .rw [frz_flat,laa]
     exact kl _ _ h9
  | mp es =>
   obtain⟨g,en,cl,h1,h2,h3,h4,h5⟩:=o;refine⟨g,en,cl,(hr i hi).trans h1,h2,by rw[lvs_map]; simpa using h3,fun k x y hx hy=>?_,h5.map _⟩;rw[lvs_map,lbf]at hx;obtain⟨x',hx',rfl⟩:=Option.map_eq_some_iff.1 hx;obtain⟨p,q⟩:=h4 k x' y hx' hy;exact⟨p.mono lt.hle hkeep,k2 _ _ q⟩
  | it mid n seen =>
   obtain⟨g,gm,h1,h2,h3,h4⟩:=o;exact⟨g,gm,(hr i hi).trans h1,h2,hkeep _ _ h3,h4⟩
  | dead=>exact(hr i hi).trans o
variable {c:Cx}{en:Env}{s:LB}
def frzE(id e:Nat)(l:LY):Env->Env
 | []=>[]
 | (t,v)::r=>(t,frz id e l v)::frzE id e l r
theorem get_frzE(id e:Nat)(l:LY)(t:Nat):∀ r,get (frzE id e l r) t=frz id e l (get r t)
 | []=>rfl
 | (t',v)::r=>by
  have ih:=get_frzE id e l t r;simp only[frzE,Go.Av.get]
  cases t'==t with
  | true=>rfl
  | false=>exact ih
theorem Shift.frz(id:Nat){es:Nat}{l:LY}(hb:s.getD id .dead=.arr es l)(hf:(flat l).all frozen=true) :
  Shift c en s (frzE id es l en) ((s.set id .dead).map (frzB id es l)):=by
 rintro a w ⟨hh,ρ,hm,hlt,he,hdf,hsz,hX⟩;obtain⟨h',ρ',m',l',key⟩:=hm.frz (AbT hb) hf;refine⟨h',ρ',m',hlt.trans l',fun t=>?_,hdf,hsz,c.hx.later hm l' hX⟩;rw[get_frzE];exact key _ _ (he t)
end
end Go.Av
namespace Go.Av
open RowKit
variable [Tr]
section
variable {c:Cx}{k:List It}{e:Env}{s:LB}{B:Code}
theorem WQ_mid{e:Exit}{a:Act}{w:World}(h:WQ c (.inv (WQ c k .normal)::k) e a w):WQ c k e a w:=by
 cases e with
 | normal=>exact h
 | exit id=>exact h
 | ret=>exact h
 | _=>exact h
theorem BgD{J:Act->World->Prop}{id:Nat}{e:Exit}{a:Act}{w:World}(h:WQ c (.inv J::.blk id::.inv (WQ c k .normal)::k) e a w):WQ c (.inv J::.blk id::k) e a w:=by
 cases e<;>grind[WQ]
theorem amid{κ:Type}{y:Code}(E:κ->Env)(S:κ->LB)(H:κ->Prop)(rest:∀ x,H x->AWp c k (E x) (S x))
  (step:∀ Q:Act->World->Prop,(∀ x,H x->∀ a w,Sim c (E x) (S x) a w->Q a w)->AWp c (.code y::.inv Q::k) e s):AWp c (.code y::k) e s:=by
 intro a w hs;have:=step (WQ c k .normal) (fun x hx a w hs=>rest x hx a w hs) a w hs
 grind[Code.wp_mono,WQ_mid,WQ]
theorem AyG{ι κ:Type}{id:Nat}(μ:ι->Nat)(E:ι->Env)(S:ι->LB)(H:ι->Prop)(Ex:κ->Env)(Sx:κ->LB)(Hx:κ->Prop)(x0:ι)(hH:H x0)(hs:Shift c e s (E x0) (S x0))
  (rest:∀ y,Hx y->AWp c k (Ex y) (Sx y))
  (step:∀ x,H x->∀ J Q:Act->World->Prop,(∀ y,H y->μ y<μ x->∀ a w,Sim c (E y) (S y) a w->J a w)->(∀ y,Hx y->∀ a w,Sim c (Ex y) (Sx y) a w->Q a w)->AWp c (.code B::.inv J::.blk id::.inv Q::k) (E x) (S x)) :
  AWp c (.code (.loop B)::.blk id::k) e s :=
 AaI μ E S H x0 hH hs fun x hx J hJ a w hsx =>
  Code.wp_mono (fun en a' w' hq=>BgD hq) (show B.wp c.P (WQ c (.inv J::.blk id::.inv (WQ c k .normal)::k)) a w from step x hx J (WQ c k .normal) hJ (fun y hy a w hs=>rest y hy a w hs) a w hsx)
end
