/- Takes that are carried back: what the law looks at. -/
import Derived.Test.YtgenkcmfeeakoaaGreatDoorX49
set_option maxRecDepth 100000
set_option maxHeartbeats 8000000
set_option linter.all false
namespace Go.Proofs.YtgenkcmfeeakoaaGreatDoor
open Av RowKit Proofs.Tryz
theorem B1V:AcE prog 53=true:=by kernel_rfl
def eqC(v p:Cv):Bool:=v.para==p.para&&v.inn==p.inn&&v.out==p.out&&v.on==p.on
theorem BsI(v:Cv):eqC v v=true:=by simp[eqC]
theorem BcF(ps:List Cv)(v:Cv)(hl:ps.length<1000000):Pc prog 49 [.fz 4 (ps.map cvA),cvA v] (fun r=>∃ n:Int,r=.int .i64 n/\decide (n>=0)=ps.any (eqC v)):=by
 simp only[cvA];refine zpIN func49 rfl fun h ρ w=>?_
 simp only[go_sem,laa];refine AaE (ι:=Nat) (fun i=>ps.length-i) (fun i=>[(8,.int .i64 i),(7,.int .i64 ps.length),(3,.ptr 0 1 0 0),(0,.fz 4 (ps.map cvA))]) (fun _=>[.arr 4 [.agg [.int .i64 v.para,.int .i64 v.inn,.int .i64 v.out,.bool v.on]]]) (fun i=>i<=ps.length/\(ps.take i).any (eqC v)=false) 0 (by simp) ?_ ?_
 .refine Lr ?_
  simp only[go_sem]
  first|done|exact⟨rfl,rfl⟩|rfl
 .rintro i ⟨g1,g2⟩ J hJ
  by_cases gi:i<ps.length
  .have di:decide ((i:Int)<(ps.length:Int))=true:=by simp; omega
   have hg':List.getD (List.map cvA ps) i .any=.agg [.int .i64 ps[i].para,.int .i64 ps[i].inn,.int .i64 ps[i].out,.bool ps[i].on]:=by simp[List.getD,gi,cvA]
   have again:eqC v ps[i]=false->(ps.take (i+1)).any (eqC v)=false:=fun h=>by
    rw[laf gi,List.any_append,g2]
    simp[h]
   have hit:eqC v ps[i]=true->ps.any (eqC v)=true:=fun h=>List.any_eq_true.2 ⟨_,lac gi,h⟩
   unfold eqC at again hit
   cases e1:v.para==ps[i].para <;> cases e2:v.inn==ps[i].inn <;> cases e3:v.out==ps[i].out <;> cases e4:v.on==ps[i].on
   case true.true.true.true =>
    apply zgN;simp only[go_sem,di];refine zr [] AaI ?_;simp only[go_sem,hg',laa,e1,e2,e3,e4]
    repeat refine And.intro (by first|omega|exact B1V|simpa using gi) ?_
    apply zgN;simp only[go_sem];refine aret [4] rfl ⟨⟨_,rfl,?_⟩,rfl⟩;have:=hit (by rw[e1,e2,e3,e4]; rfl);unfold eqC;rw[this]
    simp
   all_goals
    apply zgN;simp only[go_sem,di];refine zr [] AaI ?_;simp only[go_sem,hg',laa,e1,e2,e3,e4]
    repeat refine And.intro (by first|omega|exact B1V|simpa using gi) ?_
    apply zgN;simp only[go_sem]
    repeat refine ao ?_
    rw[ic i];refine ainv (hJ (i+1) ⟨by omega,again (by rw[e1,e2,e3,e4]; rfl)⟩ (by omega)) (Lr ?_);simp only[go_sem]
  .have di:decide ((i:Int)<(ps.length:Int))=false:=by simp; omega
   rw[laj (by omega)]at g2;apply zgN;simp only[go_sem,di];exact aret [4] rfl ⟨⟨_,rfl,by rw[g2]; rfl⟩,rfl⟩
theorem AwM(ps:List Cv)(v:Cv)(hl:ps.length<1000000):Pc prog 15 [.fz 4 (ps.map cvA),cvA v] (· = .bool (ps.any (eqC v))):=by
 have hi:=BcF ps v hl;simp only[cvA]at hi |-;refine zpIN func15 rfl fun h ρ w=>?_
 simp only[go_sem];refine ze (hi) ?_;rintro _ ⟨n,rfl,hn⟩;apply zgN;simp only[go_sem];exact aret [4] rfl ⟨by rw[<- hn]; rfl,rfl⟩
theorem BsJ(u t:Tk):Pc prog 12 [tkA u,.pin 9 [tkA t] 0 0] (· = .bool ((u.scene==t.scene&&u.setup==t.setup)&&u.number==t.number)):=by
 simp only[tkA]
 cases e1:u.scene==t.scene with
 | false =>
  refine zpIB func12 rfl fun h ρ w=>?_
  simp only[go_sem,e1];exact aret [3] rfl ⟨by simp[resV,Av.get,Av.put],rfl⟩
 | true =>
  cases e2:u.setup==t.setup with
  | false =>
   refine zpIB func12 rfl fun h ρ w=>?_
   simp only[go_sem,e1,e2];exact aret [3] rfl ⟨by simp[resV,Av.get,Av.put],rfl⟩
  | true =>
   refine zpIB func12 rfl fun h ρ w=>?_
   simp only[go_sem,e1,e2];exact aret [3] rfl ⟨by simp[resV,Av.get,Av.put],rfl⟩
theorem BzF(c:Cv)(l:List Tk)(i:Nat)(hi:i<l.length)(hc:(l[i].covers.any (eqC c))=true)(hl:l[i].covers.length<1000000):Pc prog 14 [cvA c,.pin 1 [.fz 9 (l.map tkA)] 0 0,.pin 1 [.int .i64 i] 0 0] (· = .bool false):=by
 have hg:=AjA l i hi;have hk:=AwM l[i].covers c hl;simp only[cvA]at hk |-;refine zpIB func14 rfl fun h ρ w=>?_
 simp only[go_sem];refine zr [.bool true] AaI ?_;simp only[go_sem,hg,laa];rw[hc]at hk
 repeat first|refine And.intro (by first|exact hk.at) ?_|refine aj ?_
 apply zgB;simp only[go_sem];exact zt [4]
def keyB(t u:Tk):Bool:=(u.scene==t.scene&&u.setup==t.setup)&&u.number==t.number
theorem BsK{xs ys:List Sc}{l:List Tk}(h:InS xs l)(ha:A3H l){t:Tk}(ht:t∈confL ys xs (confL xs ys l)):∃ (i:Nat)(hi:i<l.length),idxH (keyB t) l=(i:Int)/\∀ c∈t.covers,(l[i].covers.any (eqC c))=true:=by
 obtain⟨u,hu,e1,e2,e3,hc⟩:=BpB h ht;obtain⟨k,hk,rfl⟩:=List.getElem_of_mem hu;refine⟨k,hk,AcZ hk (by simp[keyB,e1,e2,e3]) fun j hj=>?_,fun c hcc=>List.any_eq_true.2 ⟨c,hc c hcc,BsI c⟩⟩;have:=(List.pairwise_iff_getElem.1 ha j k (by omega) hk hj).1
 simpa only [keyB,dupB,e1,e2,e3]using this
theorem BsL{d:Dr}(hin:DrIn d)(ho:DraftOk d)(hl:d.Lc.length<=100):StW ⟨d.Lk,d.Lc⟩:=by
 refine⟨hin.script,?_,hl,fun{i j} hi hj e=>?_,fun y hy=>(hin.sc y hy).len⟩
 .rw [List.any_eq_false]
  intro y hy
  simpa using ho.nums.all y hy
 .have hn:=AnD ho.nums.rise
  have hi':i<(nosL d.Lc).length:=by simpa[nosL]using hi
  have hj':j<(nosL d.Lc).length:=by simpa[nosL]using hj
  refine(List.getElem_inj hn (h₀:=hi') (h₁:=hj')).1 ?_
  simpa[nosL]using e
theorem BlL{d:Dr}(hin:DrIn d):BgR d.Lc:=fun z hz =>
 ⟨AsM (hin.sc z hz).all,by have:=(hin.sc z hz).len; omega⟩
theorem AqR{x:Sr}(h:StoryOk x):StoryD x.Lc:=by
 have h5:=h.len;have sc:∀ i (hi:i<x.Lc.length),SceneD x.Lc[i]/\numberL x.Lc[i].no=true:=fun i hi=>by
  have h1:=(BfL i (by omega)).2.1;have h2:=(h.all i hi).d.renum (n:=x.Lc[i].no) (.inr (by rw[h.no i hi]; exact h1));refine⟨h2,by rw[h.no i hi]; exact h1⟩
 refine⟨fun y hy=>?_,fun y hy=>?_,?_,h5⟩
 .obtain ⟨i,hi,rfl⟩:=List.mem_iff_getElem.1 hy
  exact(sc i hi).1
 .obtain ⟨i,hi,rfl⟩:=List.mem_iff_getElem.1 hy
  exact(sc i hi).2
 .rw [lcc]
  intro i j hi hj hij;simp only[nosL,laa]at hi hj;simp only[nosL,List.getElem_map,h.no i hi,h.no j hj];exact compareN_lt.1 (BbX ⟨i,by omega⟩ ⟨j,by omega⟩ hij)
theorem A8X{x:Sr}(h:StoryOk x):SkR x.Lk x.Lc:=by
 have hd:=AqR h;exact BlB (AdA h) (List.all_eq_true.1 BbS _ h.Lk) hd.sc ((A1A x.Lc).nodup (AnD hd.rise))
theorem BzG(a:List Cv)(ha:a.length<100000):Pc prog 47 [.fz 4 (a.map cvA),.fz 4 (a.map cvA)] (· = .bool true):=by
 have d0:((a.length:Int) != (a.length:Int))=false:=by simp
 refine zpIB func47 rfl fun h ρ w=>?_
 simp only[go_sem,d0,laa];refine AaE (ι:=Nat) (fun i=>a.length-i) (fun i=>[(13,.int .i64 i),(12,.int .i64 a.length),(1,.fz 4 (a.map cvA)),(0,.fz 4 (a.map cvA))]) (fun _=>[]) (fun i=>i<=a.length) 0 (by simp) ?_ ?_
 .refine Lr ?_
  simp only[go_sem]
 .intro i g1 J hJ
  by_cases gi:i<a.length
  .have di:decide ((i:Int)<(a.length:Int))=true:=by simp; omega
   have h1:=AiZ a i gi;have hfin:=hJ (i+1) (by omega) (by omega);generalize a[i]=e at *;apply zgB;simp only[go_sem,di];refine zr [] AaI ?_;simp only[go_sem,h1,laa]
   repeat refine ak ?_
   apply zgB;simp only[go_sem]
   repeat refine aqa ?_
   rw[ic i];refine ainv hfin (Lr ?_);simp only[go_sem]
  .have di:decide ((i:Int)<(a.length:Int))=false:=by simp; omega
   apply zgB;simp only[go_sem,di];exact zt [4]
theorem BlM(t:Tk)(hlt:t.covers.length<100000):Pc prog 46 [tkA t,tkA t] (· = .bool true):=by
 simp only[tkA];refine zpIB func46 rfl fun h ρ w=>?_
 simp only[go_sem];refine zpB (BzG t.covers hlt) ?_;simp only[go_sem];exact zt [4]
theorem BsM(l:List Tk)(hl:l.length<100000)(hc:∀ t∈l,t.covers.length<100000):Pc prog 45 [.fz 9 (l.map tkA),.fz 9 (l.map tkA),.fn (.func 46) []] (· = .bool true):=by
 have d0:((l.length:Int) != (l.length:Int))=false:=by simp
 refine zpIB func45 rfl fun h ρ w=>?_
 simp only[go_sem,d0,laa];refine AaE (ι:=Nat) (fun i=>l.length-i) (fun i=>[(17,.int .i64 i),(16,.int .i64 l.length),(15,.fz 9 (l.map tkA)),(2,.fn (.func 46) []),(1,.fz 9 (l.map tkA))]) (fun _=>[]) (fun i=>i<=l.length) 0 (by simp) ?_ ?_
 .refine Lr ?_
  simp only[go_sem]
 .intro i g1 J hJ
  by_cases gi:i<l.length
  .have di:decide ((i:Int)<(l.length:Int))=true:=by simp; omega
   have hg':=AjA l i gi;have hcc:=BlM l[i] (hc _ (lac gi));have hfin:=hJ (i+1) (by omega) (by omega);simp only[tkA]at hcc;generalize l[i]=t at *;apply zgB;simp only[go_sem,di,hg',laa]
   repeat refine And.intro (by first|omega|simpa using gi|rfl) ?_
   refine zpB (hcc) ?_;simp only[go_sem]
   repeat refine And.intro (by first|omega|simpa using gi|rfl) ?_
   rw[ic i];refine ainv hfin (Shift.low 0 (by simp) (by simp) rfl ?_);simp only[go_sem]
  .have di:decide ((i:Int)<(l.length:Int))=false:=by simp; omega
   apply zgB;simp only[go_sem,di];exact zt [6]
theorem A1H(l:List Tk)(hl:l.length<100000)(hc:∀ t∈l,t.covers.length<100000):Pc prog 10 [.fz 9 (l.map tkA),.fz 9 (l.map tkA)] (· = .bool true):=by
 refine zpIB func10 rfl fun h ρ w=>?_
 simp only[go_sem];refine zpB (BsM l hl hc) ?_;simp only[go_sem];exact zt [4]
theorem A1I{S:Std}(hS:LibR S)(L:List Int):PcH prog S 3 [.fz 1 (L.map (.int .i64))] (· = .bool true):=by
 obtain⟨x,r,rs,l,k',hf,hk1,hk2,hfilm⟩:=filmX hS L 0 (by omega) (by omega);have hst:=ArY hS.ok L k' (by omega) (by omega);obtain⟨hy0,hy1,hy2⟩:=AyC L k';have hyo:=A6W hy0;generalize numR (storyF L k').1=y0 at hst hyo;generalize (storyF L k').2=k2 at hst hy1 hy2;have hlk:=BkZ hS (A8X hf.story) (AqR hf.story);have hin:=ByZ (AdA hf.story) (AqR hf.story);have hlo:=ByV (ti:=x.Lk) (AqR hf.story);have hxl:=hf.story.len;have hsd:=AqR hf.story;have hrv:=A4I L k2 (by omega) 1 x.Lk x.Lc (by omega) [] ((lockL x.Lc).map leA) hsd.sc (by omega) (AnD hsd.rise) (by simp) (by simp);simp only[srA,drA,las]at hfilm hst hlk hrv;refine zqIW func3 rfl fun h ρ w hg=>?_
 simp only[go_sem];refine BdU hg (agg:=str L 0) hfilm rfl rfl (id:=0) rfl rfl rfl ?_;rintro _ _ ⟨rfl,rfl⟩;apply zgN;simp only[go_sem];refine BdU hg (agg:=str L k') hst rfl rfl (id:=0) rfl rfl rfl ?_;rintro _ _ ⟨rfl,rfl⟩;apply zgN;simp only[go_sem];refine zqN hg (hlk) ?_;simp only[go_sem];refine B1L (κ:=Int×Sr) (fun _=>[(7,.ptr 3 1 0 0),(6,.ptr 2 1 0 0),(5,.fz 5 (rlA r::rs.map rlA)),(4,.ptr 1 1 0 0),(3,.ptr 0 1 0 0)]) (fun p=>[.arr 2 [str L p.1],.arr 2 [.agg [.str x.Lk,.fz 5 (x.Lc.map scA)]],.arr 1 [.fz 9 (l.map tkA)],.arr 2 [.agg [.str p.2.Lk,.fz 5 (p.2.Lc.map scA)]]]) (fun p=>0<=p.1/\p.1<=900000000/\StW p.2/\BgR p.2.Lc) ?_ ?_
 .rintro ⟨k3,y⟩ ⟨hk3,hk4,hyw,hyp⟩
  simp only at hk3 hk4 hyw hyp |-;have hpx:=hf.story.para;have hc1:=AjE hS x y r rs l hf.w hyw hpx hyp;have hw1:=AyR hf.w hyw;have hc2:=AjE hS y x r rs _ hw1 hf.story.w hyp hpx;have hw2:=AyR hw1 hf.story.w;have hc3:=AjE hS x y r rs _ hw2 hyw hpx hyp;have hinl:InS x.Lc l:=fun t ht=>by
   obtain⟨i,hi,e⟩:=BgS hf.w t ht;exact List.any_eq_true.2 ⟨_,lac hi,by simp[e]⟩
  rw[BoZ hinl]at hc3;have hbl:=BpA (ys:=y.Lc) hinl;have hsm:=A1H (confL x.Lc y.Lc l) (by have:=hw1.len; omega) (fun t ht=>by have:=(hw1.takes t ht).len; omega);simp only[srA,lal]at hc1 hc2 hc3;apply zgN;simp only[go_sem];refine zqN hg (hc1) ?_;simp only[go_sem];refine zqN hg (hc2) ?_;simp only[go_sem];refine zqN hg (hc3) ?_;simp only[go_sem];refine zpN (hsm) ?_;simp only[go_sem];refine⟨fun h=>absurd (by simp only[laa,hbl]) h,fun _=>?_⟩;simp only[laa,hbl,bne_self_eq_false];apply zgN;simp only[go_sem];have hhit:=fun t (ht:t∈confL y.Lc x.Lc (confL x.Lc y.Lc l))=>BsK hinl (A7J hf.ok) ht
  clear hc1 hc2 hc3 hsm hw1;rw[<- hbl];clear hbl;have hbt:=hw2.takes;have hbkl:=hw2.len;clear hw2;generalize confL y.Lc x.Lc (confL x.Lc y.Lc l)=bk at *;have hll:=hf.len;have hlt:=hf.takes;have htk:=BoQ;refine AaE (ι:=Nat) (fun i=>bk.length-i) (fun i=>[(98,.int .i64 i),(97,.int .i64 bk.length),(96,.fz 9 (bk.map tkA)),(6,.ptr 2 1 0 0)]) (fun _=>[.arr 2 [str L k3],.arr 2 [.agg [.str x.Lk,.fz 5 (x.Lc.map scA)]],.arr 1 [.fz 9 (l.map tkA)],.arr 2 [.agg [.str y.Lk,.fz 5 (y.Lc.map scA)]]]) (fun i=>i<=bk.length) 0 (by omega) ?_ ?_
  .refine Lr ?_
   simp only[go_sem]
   try simp
  .intro i g1 J hJ
   by_cases gi:i<bk.length
   .have di:decide ((i:Int)<(bk.length:Int))=true:=by simp; omega
    have htg:=AjA bk i gi;obtain⟨q,hq,hix,hcs⟩:=hhit _ (lac gi);have hfin:=hJ (i+1) (by omega) (by omega);have hcl:=(hbt _ (lac gi)).len;have hql:=(hlt _ (lac hq)).len;clear hJ;generalize bk[i]=m at *;have hidx:=A6O 12 [.pin 9 [tkA m] 0 0] rfl (keyB m) l (by omega) (fun u _=>BsJ u m);rw[hix]at hidx;have hany:=BnX 14 [.pin 1 [.fz 9 (l.map tkA)] 0 0,.pin 1 [.int .i64 q] 0 0] rfl (fun _=>false) m.covers (by omega) (fun c hc=>BzF c l q hq (hcs c hc) (by omega));have hf0:(m.covers.any fun _=>false)=false:=by simp
    rw[hf0]at hany;have hbor1:=Ct.borrowF (P:=prog) (f:=11) (args:=[.fz 9 (l.map tkA),.fn (.func 12) [.ptr 4 1 0 0]]) 1 [.arr 2 [str L k3],.arr 2 [.agg [.str x.Lk,.fz 5 (x.Lc.map scA)]],.arr 1 [.fz 9 (l.map tkA)],.arr 2 [.agg [.str y.Lk,.fz 5 (y.Lc.map scA)]],.arr 9 [tkA m]] (post:=(· = .int .i64 (q:Int))) hidx (by rintro r rfl; rfl);have hbor2:=Ct.borrowF (P:=prog) (f:=13) (args:=[.fz 4 (m.covers.map cvA),.fn (.func 14) [.ptr 2 1 0 0,.ptr 5 1 0 0]]) 1 [.arr 2 [str L k3],.arr 2 [.agg [.str x.Lk,.fz 5 (x.Lc.map scA)]],.arr 1 [.fz 9 (l.map tkA)],.arr 2 [.agg [.str y.Lk,.fz 5 (y.Lc.map scA)]],.arr 9 [tkA m],.arr 1 [.int .i64 q]] (post:=(· = .bool false)) hany (by rintro r rfl; rfl);have d2:decide ((q:Int)<0)=false:=by simp
    simp only[tkA]at htg hbor1 hbor2;apply zgB;simp only[go_sem,di,htg,laa]
    repeat refine ai ?_
    refine za (hbor1) ?_;rintro _ _ ⟨rfl,rfl⟩;apply zgB;simp only[go_sem,d2]
    repeat refine ai ?_
    refine za (hbor2) ?_;rintro _ _ ⟨rfl,rfl⟩;apply zgB;simp only[go_sem]
    repeat refine ai ?_
    rw[ic i];refine ainv hfin ?_;refine Shift.low 4 (by simp) (by simp) ?_ ?_
    .simp only[go_sem,lowB,flat,str]
    .simp only[go_sem]
   .have di:decide ((i:Int)<(bk.length:Int))=false:=by simp; omega
    apply zgB;simp only[go_sem,di];refine zpB (htk) ?_;simp only[go_sem];exact zt [2]
 intro Q hQ;refine AeB [3,4] 0 [] AaI (by decide) rfl rfl 100 ?_;simp only[go_sem]
 repeat refine aqg ?_
 refine AuQ hrv rfl rfl rfl ⟨_,_,[],k2,rfl,⟨by simp,by simp[hasNo,nosL],by simp,by simp⟩,rfl,by omega,by omega⟩ ?_;rintro _ _ ⟨zs,k3,rfl,hz,rfl,hk3,hk4⟩;have hzl:=hz.len;have hti:=(AdA hf.story).Lk;have htpl:=(AdA hf.story).plain;have htp:=(A8X hf.story).plain;have hzs:=hz.script (by omega) hti htpl;have hsk2:=BlB hzs htp hz.sc hz.nod;have hnx:=A5F hS hin hlo htp (fun f hf=>by have:=AeY (hlo.binder.all f hf).name; omega) hsk2;simp only[srA,drA,las]at hnx |-;simp only[go_sem];refine BgB hg hnx rfl rfl ⟨_,.inl ⟨1,by decide,rfl⟩⟩ ?_;rintro _ (⟨e,he,rfl⟩|⟨E,E',la,l',hN,rfl⟩)
 .have de:(e==0)=false:=by simpa using he
  simp only[drZ];simp only[go_sem]
  repeat refine aqg ?_
  refine go rfl 6 ?_;simp only[go_sem,de];have hQ':=hQ (k3,y0) ⟨by omega,by omega,hyo.w,hyo.para⟩;simp only[srA]at hQ';refine go rfl 4 ?_;simp only[go_sem];refine ainv hQ' (Shift.low 4 (by simp) (by simp) ?_ ?_)
  .simp only[go_sem,lowB,flat,str]
  .simp only[go_sem]
 .have hnk:=next_ok (x:=⟨x.Lk,zs⟩) hin hti htpl hz.sc hz.first (by simp only; omega) hN
  generalize nextD _ ⟨x.Lk,zs⟩ E l'=N at *;simp only[drA];simp only[go_sem]
  repeat refine aqg ?_
  refine go rfl 6 ?_;simp only[go_sem];have hQ':=hQ (k3,⟨N.Lk,N.Lc⟩) ⟨by omega,by omega,BsL hnk.inn hnk.ok (by rw[hnk.Lc]; simp only; omega),BlL hnk.inn⟩;simp only[srA]at hQ';refine go rfl 20 ?_;simp only[go_sem];refine ainv hQ' (Shift.low 4 (by simp) (by simp) ?_ ?_)
  .simp only[go_sem,lowB,flat,str]
  .simp only[go_sem]
