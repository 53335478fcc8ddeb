/- The reference's fault of a take, of takes. -/
import Derived.Test.YtgenkcmfeeakoaaGreatDoorX25
set_option maxRecDepth 100000
set_option maxHeartbeats 8000000
set_option linter.all false
namespace Go.Proofs.YtgenkcmfeeakoaaGreatDoor
open Av RowKit Proofs.Tryz
def CvAt(t:Tk)(np:Nat)(j:Nat)(c:Cv):Prop :=
 (0<=c.para/\c.para<np)/\(0<j->∀ p,t.covers[j-1]? = some p->p.para<c.para/\p.out<=c.inn)/\t.inn<=c.inn/\c.inn<c.out/\c.out<=t.out
structure TkAt(x:Sr)(r:Rl)(l:List Tk)(k:Nat)(t:Tk):Prop where
 scene:0<=AcO x t.scene
 dup:((l.take k).any (dupB t))=false
 hold:AsE r t.inn t.out=true
 busy:((l.take k).any (busyB t))=false
 cov:∀ (i:Nat) (h:i<x.Lc.length),AcO x t.scene=i->∀ j c,t.covers[j]? = some c->CvAt t x.Lc[i].Ld.length j c
structure TakesOk(x:Sr)(r:Rl)(l:List Tk):Prop where
 len:l.length<=3000
 at':∀ k t,l[k]? = some t->TkAt x r l k t
theorem TakesOk.no{x:Sr}{r:Rl}{l:List Tk}{i:Nat}{t:Tk}(hi:l[i]? = some t)(h:¬ TkAt x r l i t):¬ TakesOk x r l:=fun c=>h (c.at' i t hi)
theorem AiB(x:Sr)(no:LU):AcO x no<0\/∃ i,(i<x.Lc.length)/\AcO x no=((i:Nat):Int):=by
 unfold AcO idxH
 cases hq:x.Lc.findIdx? (fun y=>y.no==no&&no != [])with
 | none=>left; decide
 | some i =>
  right
  exact⟨i,(List.findIdx?_eq_some_iff_getElem.1 hq).1,rfl⟩
theorem BoH(x:Sr)(hx:StoryOk x)(r:Rl)(rs:List Rl)(hr:RollsOk (r::rs))(hne:(r.name==[])=false)(l:List Tk)(hl:∀ t∈l,TkB r t)(hll:l.length<=20)(k:Nat)(hk:k<l.length) :
  Pc prog 56 [srA x,.fz 5 ((r::rs).map rlA),.fz 9 (l.map tkA),.int .i64 k] (fun v=>∃ n:Int,v=.int .i64 n/\(n=0 ↔ TkAt x r l k l[k])):=by
 have hlen:=hx.len;have hrl:=hr.len;simp only[lam]at hrl;obtain⟨hro,_⟩:=hr.at' 0 r rfl;have hrs:=hro.start;have hrg:=hro.long;have hdb:0<=dayR r.rate/\dayR r.rate<=2592000:=by
  have:=hro.rate;obtain h|h|h|h:r.rate=1\/r.rate=2\/r.rate=3\/r.rate=4:=by omega
  all_goals rw[h]; decide
 obtain⟨t,ht⟩:∃ t,t=l[k]:=⟨_,rfl⟩;have hb:=hl l[k] (lac hk);have hgt:=AjA l k hk;rw[<- ht]at hb hgt |-;have b1:=hb.setup;have b2:=hb.number;have b3:=hb.roll;have b4:=hb.sound;have b5:=hb.inn;have b6:=hb.out;have b7:=hb.len;have b8:=hb.cov;have hret:∀ (n:Int),n≠0->¬ TkAt x r l k t->∃ m:Int,AV.int .i64 n=.int .i64 m/\(m=0 ↔ TkAt x r l k t):=fun n hn hc=>⟨n,rfl,⟨fun h=>absurd h hn,fun h=>absurd h hc⟩⟩
 have hsa:=A9Y x t.scene hlen;have hro1:=A9Z r rs (by omega) hne;have hro2:=A3A (r::rs) (by simp; omega);have hset:=BfX;have hhold:=BfV r t.inn t.out ⟨by omega,by omega⟩ ⟨by omega,by omega⟩;have hany1:=A6P 112 [.pin 9 [tkA t] 0 0] rfl (dupB t) (l.take k) (by rw[lci]; omega) (fun y _=>BwK y t);have hany2:=A6P 114 [.pin 9 [tkA t] 0 0] rfl (busyB t) (l.take k) (by rw[lci]; omega) (fun y _=>BoG y t);rw[lco]at hany1 hany2;have hk2:decide ((k:Int)<=(l.length:Int))=true:=by simp; omega
 have n1:decide (t.number<1)=false:=by simp; omega
 have n2:decide (t.number>99)=false:=by simp; omega
 have hbor1:=Ct.borrowF (P:=prog) (f:=111) (args:=[.fz 9 (List.take k (l.map tkA)),.fn (.func 112) [.ptr 0 1 0 0]]) 1 [.arr 9 [tkA t],.arr 5 [rlA r],.arr 5 [rlA rlZ]] hany1 (by rintro r rfl; rfl);have hbor2:=Ct.borrowF (P:=prog) (f:=111) (args:=[.fz 9 (List.take k (l.map tkA)),.fn (.func 114) [.ptr 0 1 0 0]]) 1 [.arr 9 [tkA t],.arr 5 [rlA r],.arr 5 [rlA rlZ]] hany2 (by rintro r rfl; rfl);have hbad:=AiB x t.scene;generalize hsi:AcO x t.scene=si at *;simp only[tkA,rlA,rlZ,b1,b3,b4]at hbor1 hbor2 hgt hro1 hro2 hhold hsa;simp only[srA,lal,rlA]at hsa hro1 hro2 |-;refine zpIB func56 rfl fun h ρ w=>?_
 simp only[go_sem,hgt,laa]
 repeat refine aj ?_
 refine zpB (hsa) ?_;simp only[go_sem];refine zpB (hro1) ?_;simp only[go_sem];refine zpB (hro2) ?_
 cases e1:decide (si<0)with
 | true =>
  simp only[go_sem,e1];exact aret [8] rfl ⟨hret 8 (by decide) (fun h=>by have:=h.scene; simp at e1; omega),rfl⟩
 | false =>
  obtain⟨i,hi,hii⟩:=hbad.resolve_left (by simpa using e1);simp only[go_sem,e1];refine zpB (hset) ?_;simp only[go_sem,n1,n2,hk2,laa]
  repeat refine aj ?_
  refine za (hbor1) ?_;rintro _ _ ⟨rfl,rfl⟩;apply zgB
  cases e2:(l.take k).any (dupB t)with
  | true =>
   simp only[go_sem];exact aret [8] rfl ⟨hret 6 (by decide) (fun h=>by rw[h.dup]at e2; cases e2),rfl⟩
  | false =>
   simp only[go_sem];refine zpB (hhold) ?_
   cases e3:AsE r t.inn t.out with
   | false =>
    simp only[go_sem];exact aret [8] rfl ⟨hret 1 (by decide) (fun h=>by rw[h.hold]at e3; cases e3),rfl⟩
   | true =>
    simp only[go_sem,hk2,laa]
    repeat refine aj ?_
    refine za (hbor2) ?_;rintro _ _ ⟨rfl,rfl⟩;apply zgB
    cases e4:(l.take k).any (busyB t)with
    | true =>
     simp only[go_sem];exact aret [8] rfl ⟨hret 12 (by decide) (fun h=>by rw[h.busy]at e4; cases e4),rfl⟩
    | false =>
     obtain⟨np,hnp⟩:∃ np,np=x.Lc[i].Ld.length:=⟨_,rfl⟩;have hgs:=AgE x.Lc i hi;have hpl:((x.Lc[i].Ld.map paA).length:Int)=np:=by rw[hnp]; simp
     have hnp60:np<=60:=by rw[hnp]; exact(hx.all i hi).len
     have hbadc:∀ j c,t.covers[j]? = some c->¬ CvAt t np j c->¬ TkAt x r l k t:=fun j c hc hn h=>hn (by rw[hnp]; exact h.cov i hi (by rw[hsi,hii]) j c hc)
     have hgood:(∀ j c,t.covers[j]? = some c->CvAt t np j c)->TkAt x r l k t:=fun h=>⟨by rw[hsi,hii]; omega,e2,e3,e4,fun i' hi' he j c hc=>by
      rw[hsi,hii]at he;have:i'=i:=by omega
      subst this;rw[<- hnp];exact h j c hc⟩
     simp only[go_sem,laa];refine AaE (ι:=Nat) (fun y=>t.covers.length-y)
      (fun y=>[(91,.int .i64 y),(90,.int .i64 t.covers.length),(89,.fz 4 (t.covers.map cvA)),(10,.int .i64 si),(9,.ptr 0 1 0 0),(4,.pin 2 [.agg [.str x.Lk,.fz 5 (x.Lc.map scA)]] 0 0)])
      (fun _=>[.arr 9 [.agg [.str t.scene,.str [],.int .i64 t.number,.str r.name,.str [],.int .i64 t.inn,.int .i64 t.out,.bool t.good,.fz 4 (t.covers.map cvA)]],.arr 5 [.agg [.str r.name,.int .i64 r.rate,.int .i64 r.start,.int .i64 r.long,.int .i64 r.drift]],.arr 5 [.agg [.str [],.int .i64 0,.int .i64 0,.int .i64 0,.int .i64 0]]])
      (fun y=>y<=t.covers.length/\∀ j c,j<y->t.covers[j]? = some c->CvAt t np j c) 0 ⟨by simp,fun j c h=>absurd h (by omega)⟩ ?_ ?_
     .refine Lt ?_ rfl
      simp only[go_sem,laa]
     rintro j ⟨g1,g2⟩ J hJ
     by_cases gj:j<t.covers.length
     .have dj:decide ((j:Int)<(t.covers.length:Int))=true:=by simp; omega
      have hcj:t.covers[j]? = some t.covers[j]:=lab gj;have hgc:=AiZ t.covers j gj;have hcb:=b8 _ (lac gj);have hgp:0<j->∃ q,t.covers[j-1]? = some q/\List.getD (List.map cvA t.covers) (j-1) .any=.agg [.int .i64 q.para,.int .i64 q.inn,.int .i64 q.out,.bool q.on]:=fun h0=>⟨t.covers[j-1],lab (by omega),AiZ t.covers (j-1) (by omega)⟩
      generalize t.covers[j]=c at *;have hbc:=hbadc j c hcj;have hfin:CvAt t np j c->∀ a w,Sim _ _ _ a w->J a w:=fun hc=>hJ (j+1) ⟨by omega,fun j' c' hj' hc'=>by
       rcases Nat.lt_or_ge j' j with h2|h2
       .exact g2 j' c' h2 hc'
       .have:j'=j:=by omega
        subst this;rw[hcj]at hc'
        cases hc'
        exact hc⟩ (by omega)
      have hsit:si.toNat=i:=by omega
      have hj1:((j:Int)-1).toNat=j-1:=by omega
      have hsi0:0<=si:=by omega
      have hsi5:si<(x.Lc.length:Int):=by omega
      apply zgB;simp only[go_sem,dj,hgc,laa]
      repeat refine aj ?_
      cases f1:decide (c.para<0)with
      | true =>
       refine zr [] AaI ?_;simp only[go_sem,f1]
       repeat refine aj ?_
       apply zgB;simp only[go_sem];exact aret [8] rfl ⟨hret 8 (by decide) (hbc fun h=>by have:=h.1; simp at f1; omega),rfl⟩
      | false =>
       cases f2:decide (c.para>=(np:Int))with
       | true =>
        refine zr [] AaI ?_;simp only[go_sem,f1,hgs,hpl,f2,hsit,laa];rw[<- hnp];simp only[go_sem,f1,f2]
        repeat refine aj ?_
        apply zgB;simp only[go_sem];exact aret [8] rfl ⟨hret 8 (by decide) (hbc fun h=>by have:=h.1; simp at f2; omega),rfl⟩
       | false =>
        refine zr [] AaI ?_;simp only[go_sem,f1,hgs,hpl,f2,hsit,laa];rw[<- hnp];simp only[go_sem,f1,f2]
        repeat refine aj ?_
        apply zgB;simp only[go_sem]
        by_cases hj0:0<j
        .obtain ⟨q,hq,hgq⟩:=hgp hj0
         have q0:decide ((j:Int)>0)=true:=by simp; omega
         cases f3:decide (c.para<=q.para)with
         | true =>
          refine zr [] AaI ?_;simp only[go_sem,q0,hj1,hgq,f3,laa]
          repeat refine aj ?_
          apply zgB;simp only[go_sem];exact aret [8] rfl ⟨hret 7 (by decide) (hbc fun h=>by have:=h.2.1 hj0 q hq; simp at f3; omega),rfl⟩
         | false =>
          cases f4:decide (c.inn<q.out)with
          | true =>
           refine zr [] AaI ?_;simp only[go_sem,q0,hj1,hgq,f3,f4,laa]
           repeat refine aj ?_
           apply zgB;simp only[go_sem];exact aret [8] rfl ⟨hret 7 (by decide) (hbc fun h=>by have:=h.2.1 hj0 q hq; simp at f4; omega),rfl⟩
          | false =>
           refine zr [] AaI ?_;simp only[go_sem,q0,hj1,hgq,f3,f4,laa]
           repeat refine aj ?_
           have hord:0<j->∀ p,t.covers[j-1]? = some p->p.para<c.para/\p.out<=c.inn:=fun _ p hp=>by rw[hq]at hp; cases hp; simp at f3 f4; omega
           cases f5:decide (c.inn<t.inn)with
           | true =>
            apply zgB;simp only[go_sem,f5];exact aret [8] rfl ⟨hret 1 (by decide) (hbc fun h=>by have:=h.2.2; simp at f5; omega),rfl⟩
           | false =>
            cases f6:decide (c.inn>=c.out)with
            | true =>
             apply zgB;simp only[go_sem,f5,f6];exact aret [8] rfl ⟨hret 1 (by decide) (hbc fun h=>by have:=h.2.2; simp at f6; omega),rfl⟩
            | false =>
             cases f7:decide (c.out>t.out)with
             | true =>
              apply zgB;simp only[go_sem,f5,f6,f7];exact aret [8] rfl ⟨hret 1 (by decide) (hbc fun h=>by have:=h.2.2; simp at f7; omega),rfl⟩
             | false =>
              apply zgB;simp only[go_sem,f5,f6,f7]
              repeat refine aj ?_
              rw[ic j];refine ainv (hfin ⟨by simp at f1 f2; omega,hord,by simp at f5 f6 f7; omega⟩) (Shift.low 3 (by simp) (by simp) ?_ ?_)
              .simp only[go_sem,lowB,flat]
              .simp only [go_sem]
        .have q0:decide ((j:Int)>0)=false:=by simp; omega
         refine zr [] AaI ?_;simp only[go_sem,q0]
         repeat refine aj ?_
         have hord:0<j->∀ p,t.covers[j-1]? = some p->p.para<c.para/\p.out<=c.inn:=fun h=>absurd h hj0
         cases f5:decide (c.inn<t.inn)with
         | true =>
          apply zgB;simp only[go_sem,f5];exact aret [8] rfl ⟨hret 1 (by decide) (hbc fun h=>by have:=h.2.2; simp at f5; omega),rfl⟩
         | false =>
          cases f6:decide (c.inn>=c.out)with
          | true =>
           apply zgB;simp only[go_sem,f5,f6];exact aret [8] rfl ⟨hret 1 (by decide) (hbc fun h=>by have:=h.2.2; simp at f6; omega),rfl⟩
          | false =>
           cases f7:decide (c.out>t.out)with
           | true =>
            apply zgB;simp only[go_sem,f5,f6,f7];exact aret [8] rfl ⟨hret 1 (by decide) (hbc fun h=>by have:=h.2.2; simp at f7; omega),rfl⟩
           | false =>
            apply zgB;simp only[go_sem,f5,f6,f7]
            repeat refine aj ?_
            rw[ic j];refine ainv (hfin ⟨by simp at f1 f2; omega,hord,by simp at f5 f6 f7; omega⟩) (Shift.low 3 (by simp) (by simp) ?_ ?_)
            .simp only[go_sem,lowB,flat]
            .simp only [go_sem]
     .have dj:decide ((j:Int)<(t.covers.length:Int))=false:=by simp; omega
      apply zgB;simp only[go_sem,dj];exact aret [8] rfl ⟨⟨0,rfl,fun _=>hgood fun j' c hc=>g2 j' c (by have:=(List.getElem?_eq_some_iff.1 hc).1; omega) hc,fun _=>rfl⟩,rfl⟩
theorem B0M(x y:Int):Pc prog 53 [.fz 1 [.int .i64 x,.int .i64 y]] (· = .int .i64 (orI x y)):=by
 refine zpIN func53 rfl fun h ρ w=>?_
 simp only[go_sem];refine AdZ (AcM (zgN ?_))
 by_cases h1:x=0
 .have d1:(x != 0)=false:=by simpa using h1
  simp only[go_sem,d1];refine AxH (AcM (zgN ?_))
  by_cases h2:y=0
  .have d2:(y != 0)=false:=by simpa using h2
   simp only[go_sem,d2];refine AxH (AcM (zgN ?_));simp only[go_sem];exact aret [2] rfl ⟨by simp[resV,Av.get,orI,h1,h2],rfl⟩
  have d2:(y != 0)=true:=by simpa using h2
  simp only[go_sem,d2];exact aret [2] rfl ⟨by simp[resV,Av.get,orI,h1],rfl⟩
 have d1:(x != 0)=true:=by simpa using h1
 simp only[go_sem,d1];exact aret [2] rfl ⟨by simp[resV,Av.get,orI,h1],rfl⟩
theorem BaB{S:Std}(hS:LibR S)(x:Sr)(hx:StoryOk x)(r:Rl)(rs:List Rl)(hr:RollsOk (r::rs))(hn:∀ y∈r::rs,y.name.length<100)(hne:(r.name==[])=false)(l:List Tk)(hl:∀ t∈l,TkB r t)(hll:l.length<=20) :
  PcH prog S 19 [srA x,.fz 5 ((r::rs).map rlA),.fz 9 (l.map tkA)] (fun v=>∃ n:Int,v=.int .i64 n/\(n=0 ↔ (AdH x=0/\TakesOk x r l))):=by
 have h1:=A9W hS x hx;have h2:=AyG (r::rs) hr.len hn;have h3:=fun k hk=>BoH x hx r rs hr hne l hl hll k hk
 have d1:decide ((l.length:Int)>3000)=false:=by simp; omega
 simp only[srA,lal]at h1 h2 h3 |-;refine zqIB func19 rfl fun h ρ w hg=>?_
 simp only[go_sem];refine zqB hg (h1) ?_;simp only[go_sem];refine ze (h2) ?_;rintro _ ⟨n,rfl,hnn⟩;have hn0:=hnn.2 hr;subst hn0;apply zgB;simp only[go_sem];refine zpB (B0M (AdH x) 0) ?_;have ho:orI (AdH x) 0=AdH x:=by unfold orI; split <;> omega
 rw[ho]
 cases e1:AdH x != 0 with
 | true =>
  simp only[go_sem,e1];exact aret [6] rfl ⟨⟨_,rfl,⟨fun h=>by simp[h]at e1,fun h=>by simp[h.1]at e1⟩⟩,rfl⟩
 | false =>
  have e1':AdH x=0:=by simpa using e1
  simp only[go_sem,e1,d1,laa];refine AaE (ι:=Nat) (fun y=>l.length-y)
   (fun y=>[(24,.int .i64 y),(23,.int .i64 l.length),(3,.pin 2 [.agg [.str x.Lk,.fz 5 (x.Lc.map scA)]] 0 0),(1,.fz 5 (rlA r::rs.map rlA)),(2,.fz 9 (l.map tkA))])
   (fun y=>[]) (fun y=>y<=l.length/\∀ j t,j<y->l[j]? = some t->TkAt x r l j t) 0 ⟨by simp,fun j _ h=>absurd h (by omega)⟩ ?_ ?_
  .refine Lt ?_ rfl
   simp only[go_sem,laa]
  .rintro i ⟨g1,g2⟩ J hJ
   by_cases gi:i<l.length
   .have di:decide ((i:Int)<(l.length:Int))=true:=by simp; omega
    have hxi:l[i]? = some l[i]:=lab gi;apply zgB;simp only[go_sem,di];refine ze (h3 i gi) ?_;rintro _ ⟨n,rfl,hnn⟩;apply zgB
    cases e2:n != 0 with
    | true =>
     simp only[go_sem,e2];exact aret [6] rfl ⟨⟨_,rfl,⟨fun h=>by simp[h]at e2,fun h=>by have:=hnn.2 (h.2.at' i _ hxi); simp[this]at e2⟩⟩,rfl⟩
    | false =>
     have hok:=hnn.1 (by simpa using e2);simp only[go_sem,e2]
     repeat refine aj ?_
     rw[ic i];refine ainv (hJ (i+1) ⟨by omega,fun j t hj ht=>by
      rcases Nat.lt_or_ge j i with h2|h2
      .exact g2 j t h2 ht
      .have:j=i:=by omega
       subst this;rw[hxi]at ht
       cases ht
       exact hok⟩ (by omega)) (Lt ?_ rfl)
     simp only[go_sem]
   .have di:decide ((i:Int)<(l.length:Int))=false:=by simp; omega
    apply zgB;simp only[go_sem,di];exact aret [6] rfl ⟨⟨0,rfl,⟨fun _=>⟨e1',by omega,fun j t hj=>g2 j t (by have:=(List.getElem?_eq_some_iff.1 hj).1; omega) hj⟩,fun _=>rfl⟩⟩,rfl⟩
structure FilmOk(x:Sr)(r:Rl)(rs:List Rl)(l:List Tk):Prop where
 story:StoryOk x
 rolls:RollsOk (r::rs)
 names:∀ y∈r::rs,y.name∈RnL
 many:rs.length=2
 takes:∀ t∈l,TkB r t
 len:l.length<=15
 ok:TakesOk x r l
theorem BfY(x:Sr)(r:Rl):TakesOk x r []:=⟨by simp,by simp⟩
theorem B0N{s:LU}(h:rnR s=true):(s==[])=false:=by
 cases s with
 | nil=>simp[rnR,longR]at h
 | cons a s=>rfl
theorem filmX{S:Std}(hS:LibR S)(L:List Int)(k:Int)(h3:0<=k)(h4:k<=400000):∃ (x:Sr)(r:Rl)(rs:List Rl)(l:List Tk)(k':Int),FilmOk x r rs l/\k<=k'/\k'<=k+50000 /\
  McH prog S 4 2 (str L k) [] (fun v s=>v=.tup [srA x,.fz 5 ((r::rs).map rlA),.fz 9 (l.map tkA)]/\s=str L k'):=by
 have hst:=ArY hS.ok L k h3 (by omega);obtain⟨hd,k1,k2⟩:=AyC L k;have hso:=A6W hd;generalize storyF L k=z at *;obtain⟨x0,kk⟩:=z;simp only at hst hd k1 k2 hso;generalize numR x0=x at *;have hro:=A9X L kk (by omega) (by omega);obtain⟨r1,r2,r3⟩:=BfR L kk;obtain⟨_,_,k3,k4⟩:=AoU L kk;generalize rightF L kk=rl at *;generalize (rollsF L kk).2=kr at *;obtain⟨r,rs,rfl⟩:∃ r rs,rl=r::rs:=by
  cases rl with
  | nil=>simp at r2
  | cons r rs=>exact⟨r,rs,rfl⟩
 obtain⟨hro0,_⟩:=r1.at' 0 r rfl;have hne:=B0N hro0.name;have hrs:=hro0.start;have hrg:=hro0.long;have hdb:0<=dayR r.rate/\dayR r.rate<=2592000:=by
  have:=hro0.rate;obtain h|h|h|h:r.rate=1\/r.rate=2\/r.rate=3\/r.rate=4:=by omega
  all_goals rw[h]; decide
 have hfu:=BoE L kr x hso r rs (by omega) (by omega) ⟨by omega,by omega⟩ (by omega);obtain⟨f1,f2,f3,f4⟩:=BoD L kr x hso r;generalize fullF L kr x.Lc r=w at *;obtain⟨l,kf⟩:=w;simp only at hfu f1 f2 f3 f4;have htf:=BaB hS x hso r rs r1 (fun y hy=>BtE _ (r3 y hy)) hne l f1 (by omega);have hf:FilmOk x r rs []:=⟨hso,r1,r3,by simpa using r2,by simp,by simp,BfY x r⟩;simp only[srA,lal,rlA]at hst hro hfu htf |-
 by_cases hok:AdH x=0/\TakesOk x r l
 .refine ⟨x,r,rs,l,kf,⟨hso,r1,r3,by simpa using r2,f1,f2,hok.2⟩,by omega,by omega,?_⟩
  refine zdIB func4 rfl fun h ρ w hg=>?_
  simp only[go_sem];refine zmH 0 hg (hst) ?_;rintro _ _ ⟨rfl,rfl⟩;apply zgB;simp only[go_sem];refine zm 0 (hro) ?_;rintro _ _ ⟨rfl,rfl⟩;apply zgB;simp only[go_sem];refine zm 0 (hfu) ?_;rintro _ _ ⟨rfl,rfl⟩;apply zgB;simp only[go_sem];refine zeH hg (htf) ?_;rintro _ ⟨n,rfl,hn⟩;have hn0:=hn.2 hok;subst hn0;apply zgB;simp only[go_sem];exact AcA [.cell 2 28,.tmp 3,.tmp 4] rfl [_,_,_] ⟨by simp only[go_sem,sideIs],by simp only[go_sem,sideIs],by simp only[go_sem,sideIs],trivial⟩ ⟨_,_,rfl,rfl,rfl,rfl,rfl⟩
 .refine ⟨x,r,rs,[],kf,hf,by omega,by omega,?_⟩
  refine zdIB func4 rfl fun h ρ w hg=>?_
  simp only[go_sem];refine zmH 0 hg (hst) ?_;rintro _ _ ⟨rfl,rfl⟩;apply zgB;simp only[go_sem];refine zm 0 (hro) ?_;rintro _ _ ⟨rfl,rfl⟩;apply zgB;simp only[go_sem];refine zm 0 (hfu) ?_;rintro _ _ ⟨rfl,rfl⟩;apply zgB;simp only[go_sem];refine zeH hg (htf) ?_;rintro _ ⟨n,rfl,hn⟩;have hn0:(n != 0)=true:=by
   cases h:n != 0 with
   | true=>rfl
   | false=>exact absurd (hn.1 (by simpa using h)) hok
  apply zgB;simp only[go_sem,hn0];refine ARet.shift (Shift.nilfz 4 9 rfl) ?_;exact AcA [.cell 2 28,.tmp 3,.tmp 4] rfl [_,_,_] ⟨by simp only[go_sem,sideIs],by simp only[go_sem,sideIs],by simp only[go_sem,sideIs],trivial⟩ ⟨_,_,rfl,rfl,rfl,rfl,rfl⟩
theorem AdA{x:Sr}(h:StoryOk x):ScriptOk x:=by
 have hl:=h.len;have hs:=AyE h;have ht:=List.all_eq_true.1 BfJ x.Lk h.Lk;simp only[lae,lag]at ht;refine⟨ht.2,ht.1,by omega,by omega,?_⟩;have key:∀ (l:List Sc) (i:Nat),i+l.length<=5->(∀ j,(hj:j<l.length)->l[j].no=AbJ (i+j+1)/\DrawnS ⟨[],l[j].place,l[j].set,l[j].time,l[j].Ld⟩)->(i=0->∀ y,l.head? = some y->y.time≠5)->AxX (accN i) (decide (i=0)) l:=by
  intro l
  induction l with
  | nil=>intros; trivial
  | cons y r ih =>
   intro i hi hall h5;simp only[lam]at hi;obtain⟨h1,h2⟩:=hall 0 (by simp);simp only[List.getElem_cons_zero,Nat.add_zero]at h1 h2;have ha:=BfL i (by omega);have hd:dd (accN i) y.no=accN (i+1):=by
    rw[h1,dd,if_neg ha.1]
    simp[accN,List.range_succ]
   refine⟨.inr ?_,h2.place,h2.time,fun hf=>h5 (by simpa using hf) y rfl,?_,?_⟩
   .rw [h1]; exact⟨ha.2.1,ha.2.2,ha.1⟩
   .have:=A2U h2
    exact⟨this.set,this.len,this.many,this.run⟩
   .rw [hd]
    have:=ih (i+1) (by omega) (fun j hj=>by
     have:=hall (j+1) (by simpa using hj);simp only[List.getElem_cons_succ]at this;rw[show i+1+j+1=i+(j+1)+1 by omega];exact this) (by simp)
    simpa using this
 have:=key x.Lc 0 (by omega) (fun j hj=>⟨by rw[laq]; exact h.no j hj,h.all j hj⟩) (fun _=>h.first)
 simpa[accN]using this
structure StW(x:Sr):Prop where
 script:ScriptOk x
 nos:(x.Lc.any fun y=>y.no==[])=false
 len:x.Lc.length<=100
 inj:∀ {i j:Nat} (hi:i<x.Lc.length) (hj:j<x.Lc.length),x.Lc[i].no=x.Lc[j].no->i=j
 few:∀ y∈x.Lc,y.Ld.length<=60
theorem StoryOk.w{x:Sr}(h:StoryOk x):StW x :=
 ⟨AdA h,AyF h,by have:=h.len; omega,fun hi hj e=>h.inj hi hj e,fun y hy=>by
  obtain⟨i,hi,rfl⟩:=List.getElem_of_mem hy;exact(h.all i hi).len⟩
theorem BoI(x:Sc):Pc prog 95 [scA x] (· = .bool (x.no==[])):=by
 simp only[scA];refine zpIB func95 rfl fun h ρ w=>?_
 simp only[go_sem];exact zt [2]
theorem AgS{S:Std}(hS:LibR S)(x:Sr)(hx:StW x):PcH prog S 41 [srA x] (· = .int .i64 0):=by
 have h1:=BeY hS.ok x hx.script;have h2:=AvC 95 [] rfl (fun y=>y.no==[]) x.Lc (by have:=hx.len; omega) (fun y _=>BoI y);rw[hx.nos]at h2;simp only[srA]at h1 |-;refine zqIB func41 rfl fun h ρ w hg=>?_
 simp only[go_sem];refine zqB hg (h1) ?_;simp only[go_sem];refine zpB (h2) ?_;simp only[go_sem];exact zt [2]
theorem BaC:Pc prog 88 [.str []] (· = .bool true):=by
 refine zpIN func88 rfl fun h ρ w=>?_
 simp only[go_sem];refine AdZ (AcM (zgN ?_));simp only[go_sem];exact zt [2]
theorem AqX(t:Tk)(np:Nat)(hb:t.covers.length<=60)(hn:np<=60)(hok:∀ j c,t.covers[j]? = some c->CvAt t np j c):Pc prog 93 [tkA t,.int .i64 np] (· = .int .i64 0):=by
 simp only[tkA];refine zpIB func93 rfl fun h ρ w=>?_
 simp only[go_sem,laa];refine AaE (ι:=Nat) (fun y=>t.covers.length-y)
  (fun y=>[(10,.int .i64 y),(9,.int .i64 t.covers.length),(8,.fz 4 (t.covers.map cvA)),(2,.pin 9 [.agg [.str t.scene,.str t.setup,.int .i64 t.number,.str t.roll,.str t.sound,.int .i64 t.inn,.int .i64 t.out,.bool t.good,.fz 4 (t.covers.map cvA)]] 0 0),(1,.int .i64 np)])
  (fun _=>[]) (fun y=>y<=t.covers.length) 0 (by simp) ?_ ?_
 .refine Lt ?_ rfl
  simp only[go_sem,laa]
 intro j g1 J hJ
 by_cases gj:j<t.covers.length
 .have dj:decide ((j:Int)<(t.covers.length:Int))=true:=by simp; omega
  have hcj:t.covers[j]? = some t.covers[j]:=lab gj;have hgc:=AiZ t.covers j gj;obtain⟨⟨c1,c2⟩,c3,c4,c5,c6⟩:=hok j _ hcj;have hgp:0<j->∃ q,t.covers[j-1]? = some q/\List.getD (List.map cvA t.covers) (j-1) .any=.agg [.int .i64 q.para,.int .i64 q.inn,.int .i64 q.out,.bool q.on]:=fun h0=>⟨t.covers[j-1],lab (by omega),AiZ t.covers (j-1) (by omega)⟩
  generalize t.covers[j]=c at *;have hfin:=hJ (j+1) (by omega) (by omega);have hj1:((j:Int)-1).toNat=j-1:=by omega
  have f1:decide (c.para<0)=false:=by simp; omega
  have f2:decide (c.para>=(np:Int))=false:=by simp; omega
  have f5:decide (t.inn>c.inn)=false:=by simp; omega
  have f6:decide (c.inn>=c.out)=false:=by simp; omega
  have f7:decide (c.out>t.out)=false:=by simp; omega
  have hq:(decide ((j:Int)>0)=false/\True/\True/\True/\True)\/(∃ q:Cv,decide ((j:Int)>0)=true/\0<j/\List.getD (List.map cvA t.covers) (j-1) .any=.agg [.int .i64 q.para,.int .i64 q.inn,.int .i64 q.out,.bool q.on]/\decide (c.para<=q.para)=false/\decide (c.inn<q.out)=false):=by
   by_cases h0:0<j
   .obtain ⟨q,hq,hgq⟩:=hgp h0
    have:=c3 h0 q hq;exact .inr ⟨q,by simp; omega,h0,hgq,by simp; omega,by simp; omega⟩
   .exact .inl ⟨by simp; omega,trivial,trivial,trivial,trivial⟩
  rcases hq with⟨q0,qj,q1,q2,q3⟩|⟨q,q0,qj,q1,q2,q3⟩ <;>
  .apply zgB
   simp only[go_sem,dj,hgc,f1,f2,laa]
   repeat refine aj ?_
   refine zr [] AaI ?_;simp only[go_sem,q0,hj1,q1,q2,q3,laa]
   repeat refine aj ?_
   apply zgB;simp only[go_sem,f5,f6,f7]
   repeat refine aj ?_
   rw[ic j];refine ainv hfin (Shift.low 0 (by simp) (by simp) ?_ ?_)
   .simp only [List.take_zero,lbn]
   .simp only [go_sem]
 .have dj:decide ((j:Int)<(t.covers.length:Int))=false:=by simp; omega
  apply zgB;simp only[go_sem,dj];exact zt [4]
def scMF:Nat->List Sc->List (AV×AV)
 | _,[]=>[]
 | n,y::r=>(.str y.no,.int .i64 n)::scMF (n+1) r
theorem A7A:∀ (a b:List Sc)(n:Nat),scMF n (a++b)=scMF n a++scMF (n+a.length) b
 | [],b,n=>rfl
 | y::a,b,n=>by simp only[lbb,scMF,A7A a b (n+1),lam]; rw[show n+1+a.length=n+(a.length+1) by omega]
theorem AoW{k:LU}:∀ (l:List Sc)(n m:Nat),(∀ y∈l,y.no≠k)->mfind .string (.str k) (scMF n l) m=some none
 | [],n,m,_=>rfl
 | y::r,n,m,h=>by
  have:(k==y.no)=false:=by have:=h y (by simp); simpa using Ne.symm this
  simp only[scMF,mfind,keyEq,this];exact AoW r (n+1) (m+1) (fun z hz=>h z (by simp[hz]))
theorem AkA{k:LU}:∀ (l:List Sc)(n m i:Nat)(hi:i<l.length),l[i].no=k->(∀ j,(hj:j<i)->(l[j]'(by omega)).no≠k)->mfind .string (.str k) (scMF n l) m=some (some (m+i,.int .i64 ((n+i:Nat):Int)))
 | [],n,m,i,hi,_,_=>by simp at hi
 | y::r,n,m,0,hi,h,_=>by
  simp at h
  simp[scMF,mfind,keyEq,h]
 | y::r,n,m,i+1,hi,h,hn=>by
  have h0:=hn 0 (by omega);simp only[List.getElem_cons_zero]at h0;have:(k==y.no)=false:=by simpa using Ne.symm h0
  simp only[scMF,mfind,keyEq,this];rw[AkA r (n+1) (m+1) i (by simpa using hi) (by simpa using h) (fun j hj=>by simpa using hn (j+1) (by omega)),show m+1+i=m+(i+1) by omega,show n+1+i=n+(i+1) by omega]
theorem A3B(n m:Nat)(l:List Sc):lowB n (.mp (scMF m l))=true:=by
 show(scMF m l).all _=true
 rw[lbk];intro x hx;have key:∀ (l:List Sc) (m:Nat),x∈scMF m l->∃ s i,x=(.str s,.int .i64 i):=by
  intro l
  induction l with
  | nil=>intro m h; simp[scMF]at h
  | cons y r ih =>
   intro m h;simp only[scMF,List.mem_cons]at h
   rcases h with rfl|h
   .exact ⟨_,_,rfl⟩
   .exact ih _ h
 obtain⟨s,i,rfl⟩:=key l m hx;rfl
theorem AgH(x:Sr)(hx:StW x):Ct prog 42 [srA x] [] (fun r s=>r=.mp 0/\s=[.mp (scMF 0 x.Lc)]):=by
 have hlen:=hx.len;simp only[srA];refine zcIB func42 rfl fun h ρ w=>?_
 simp only[go_sem,laa];refine AaE (ι:=Nat) (fun y=>x.Lc.length-y)
  (fun y=>[(10,.int .i64 y),(9,.int .i64 x.Lc.length),(8,.fz 5 (x.Lc.map scA)),(3,.mp 0)])
  (fun y=>[.mp (scMF 0 (x.Lc.take y))]) (fun y=>y<=x.Lc.length) 0 (by simp) ?_ ?_
 .refine Lt ?_ rfl
  simp only[go_sem,laa]
 intro i g1 J hJ
 by_cases gi:i<x.Lc.length
 .have di:decide ((i:Int)<(x.Lc.length:Int))=true:=by simp; omega
  have hget:=AgE x.Lc i gi;have m1:=AoW (k:=x.Lc[i].no) (x.Lc.take i) 0 0 (fun y hy=>by
   obtain⟨j,hj,rfl⟩:=List.getElem_of_mem hy;rw[lci]at hj;rw[List.getElem_take];intro e;exact absurd (hx.inj (by omega) gi e) (by omega))
  have m2:scMF 0 (x.Lc.take i)++[(.str x.Lc[i].no,.int .i64 (i:Int))]=scMF 0 (x.Lc.take (i+1)):=by
   rw[List.take_add_one,lab gi,A7A];simp only[Option.toList,scMF,lci];rw[show min i x.Lc.length=i by omega,laq]
  have hfin:=hJ (i+1) (by omega) (by omega);generalize x.Lc[i]=y at *;apply zgB;simp only[go_sem,di,hget,m1,m2,laa]
  repeat refine ak ?_
  rw[ic i];refine ainv hfin (Shift.low 1 (by simp) (by simp) ?_ ?_)
  .simp only [List.take_succ_cons,List.take_zero,lat,lbn,↓A3B,lbh]
  .simp only [go_sem]
 .have di:decide ((i:Int)<(x.Lc.length:Int))=false:=by simp; omega
  rw[show x.Lc.take i=x.Lc from laj (by omega)];apply zgB;simp only[go_sem,di];exact zt [2]
theorem AsF{x:Sr}(hx:StW x){no:LU}{i:Nat}(hi:i<x.Lc.length)(hs:AcO x no=i):x.Lc[i].no=no/\∀ j,(hj:j<i)->(x.Lc[j]'(by omega)).no≠no:=by
 unfold AcO idxH at hs
 cases hq:x.Lc.findIdx? (fun y=>y.no==no&&no != [])with
 | none=>rw[hq]at hs; simp at hs
 | some j =>
  rw[hq]at hs;have hij:j=i:=by
   simp only at hs;omega
  subst hij;obtain⟨h1,h2,h3⟩:=List.findIdx?_eq_some_iff_getElem.1 hq;simp only[lae,lbr]at h2;refine⟨h2.1,fun k hk e=>?_⟩;have:=hx.inj (show k<x.Lc.length by omega) hi (by rw[e,h2.1]);omega
theorem BoJ(u:Wn)(t:Tk):Pc prog 92 [wnA u,.pin 9 [tkA t] 0 0] (· = .bool (decide (u.frm<t.out)&&decide (t.inn<u.to'))):=by
 simp only[tkA,wnA];refine zpIB func92 rfl fun h ρ w=>?_
 cases e1:decide (u.frm<t.out)with
 | false =>
  simp only[go_sem,e1];exact aret [3] rfl ⟨by simp[resV,Av.get,Av.put],rfl⟩
 | true =>
  simp only[go_sem,e1];exact aret [3] rfl ⟨by simp[resV,Av.get,Av.put],rfl⟩
