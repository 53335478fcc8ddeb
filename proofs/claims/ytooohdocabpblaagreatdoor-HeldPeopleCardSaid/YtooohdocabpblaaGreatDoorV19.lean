/- An array that is a variable of the package and A2L: a part of it, its length, its. -/
import Derived.Test.YtooohdocabpblaaGreatDoorV18
set_option linter.all false
namespace Go.Av
open RowKit
variable [Tr]
section
variable {c:Cx}{k:List It}{e:Env}{s:LB}{all os:List Oper}{o:Oper}{v:AV}
theorem AmC(hd:dOk c.fn.ntmps o.dst=true)(H:∀ (h:Mem)(ρ:Own)(a:Act)(w:World),Mine h ρ s w->Later c.h c.ρ c.sto c.w h ρ s w->EnvOk h ρ s e a->∃ u,(execOp a.eval o).run c.P w=.ok (.value u) w/\RV h (Lf ρ s) false u v)
  (hk:AWp c (.ops all os::k) (put e o.dst v) s):AWp c (.op all o os::k) e s:=by
 intro a w hsim;obtain⟨hh,ρ,hm,hl,he,hdf,hsz,hX⟩:=hsim;obtain⟨u,hr,rv⟩:=H hh ρ a w hm hl he;exact AiR hl he hdf hsz hm hX hd (AaA hm hr rv) hk
theorem AsE{t el:TypeId}{g n:Nat}{x:Operand}{m:Int}(ho:o.op=.slice t (.global g) none (some x) none)(ht:c.P.underlying t=some (.array n el))(hx:ev e x=.int .i64 m)(h0:0<=m)(h1:m<=n)(h2:0<n)(hs:tsize c.P el=1)(hd:dOk c.fn.ntmps o.dst=true)
  (hk:AWp c (.ops all os::k) (put e o.dst (.raw (.slice (some ⟨g,0,none⟩) m.toNat n))) s):AWp c (.op all o os::k) e s:=by
 refine AmC hd (fun h ρ a w hm hl he=>⟨_,?_,.raw _⟩) hk;have hv:=AaF he x;rw[hx]at hv;have hv:=AaE hv;have hb:=AcL (P:=c.P) (w:=w) (n:=n) (c:=n) (lo:=none) (hi:=some x) (x:=0) (y:=m) he false rfl (by simp only[evo,hx,hiOf]) (by omega) h0 h1;have hsize:(sizeOf el).run c.P w=.ok 1 w:=by rw[<- hs]; exact AaR (by omega) w
 have hne:n≠0:=by omega
 have hg:a.eval (.global g)=.pointer (some ⟨g,0,none⟩):=rfl;have hb':(Instr.sliceBounds false n n none (some (a.eval x)) none).run c.P w=.ok (0,m.toNat,n) w:=by simpa using hb
 simp[execOp,ho,Instr.sliceAt,run_underlying ht,Instr.sureAddr,hb',hsize,hne,hg,Addr.add]
theorem A2V{cc:Call}{x:Operand}{t:TypeId}{el:TypeId}{ad:Option Addr}{n m:Nat}(ho:o.op=.call cc)(hf:cc.callee=.builtin .len)(hargs:cc.args=#[x])(hat:cc.argTypes=#[t])(ht:c.P.underlying t=some (.slice el))(hx:ev e x=.raw (.slice ad n m))(hd:dOk c.fn.ntmps o.dst=true)
  (hk:AWp c (.ops all os::k) (put e o.dst (.int .i64 n)) s):AWp c (.op all o os::k) e s:=by
 refine AmC hd (fun h ρ a w hm hl he=>⟨_,?_,.int _ _⟩) hk;have hv:=AaF he x;rw[hx]at hv;have hv:=AaU hv;have hrun:(execOp a.eval o).run c.P w=((Builtin.len_ cc.argTypes o.type (cc.args.map a.eval)).run c.P w).andThen fun v w'=>.ok (.value v) w':=by
  simp[execOp,ho,resolve,hf,invoke,builtin]
 rw[hrun]
 simp[Builtin.len_,hargs,hat,run_underlying ht,hv,goInt]
theorem AsF{t el:TypeId}{x i:Operand}{g:Nat}{n m:Nat}{j:Int}(ho:o.op=.indexAddr t x i)(ht:c.P.underlying t=some (.slice el))(hs:tsize c.P el=1)(hx:ev e x=.raw (.slice (some ⟨g,0,none⟩) n m))(hi:ev e i=.int .i64 j)(h0:0<=j)(h1:j<n)(hd:dOk c.fn.ntmps o.dst=true)
  (hk:AWp c (.ops all os::k) (put e o.dst (.raw (.pointer (some ⟨g,j.toNat,none⟩)))) s):AWp c (.op all o os::k) e s:=by
 refine AmC hd (fun h ρ a w hm hl he=>⟨_,?_,.raw _⟩) hk;have hv:=AaF he x;rw[hx]at hv;have hv:=AaU hv;have hw:=AaF he i;rw[hi]at hw;have hw:=AaE hw;have hsize:(sizeOf el).run c.P w=.ok 1 w:=by rw[<- hs]; exact AaR (by omega) w
 simp[execOp,ho,Instr.indexAt,asIntOf,run_underlying ht,hv,hw,h0,h1,hsize,Addr.add]
 omega
theorem AxG{G:Std}(hg:Le G c.w c.ρ){t:TypeId}{x:Operand}{g j:Nat}{cs:Array Value}{tt:TypeId}{z:Nat×Nat}{b:LU}(ho:o.op=.load t x)(ht:c.P.underlying t=some .string)(hx:ev e x=.raw (.pointer (some ⟨g,j,none⟩)))(hG:G g=some (.cells cs tt z))(hc:cs[j]? = some (.string ⟨b.toArray⟩))(hd:dOk c.fn.ntmps o.dst=true)
  (hk:AWp c (.ops all os::k) (put e o.dst (.str b)) s):AWp c (.op all o os::k) e s:=by
 refine AmC hd (fun h ρ a w hm hl he=>⟨_,?_,.str b⟩) hk;have hv:=AaF he x;rw[hx]at hv;have hv:=AaU hv;have hcell:w.cell? ⟨g,j,none⟩=some (.string ⟨b.toArray⟩):=by
  obtain⟨h1,_⟩:=(hg.later hl) g _ hG;rw[cell_of_row w g j cs tt z h1];exact hc
 have hl:=AfH (P:=c.P) (w:=w) (h:=h) (ρ:=ρ) (sto:=s) (t:=t) (u:=a.eval x) (b:=g) (o:=j) (cs:=[.str b]) (vs:=[.string ⟨b.toArray⟩]) (off:=0) (fl:=false) (by rw[ht]; rfl) (by rw[hv]; rfl) (.cons (.str b) .nil) (fun k v hk=>by
  cases k with
  | zero =>
   simp only[lbp,lad]at hk;subst hk; exact hcell
  | succ k=>simp at hk) (by rw[ht]; show 0<_; simp)
 obtain⟨v,h1,h2⟩:=hl;rw[ht]at h2;have h2:RV h (Lf ρ s) false v (.str b):=h2;have:=AaQ h2;subst this
 simp[execOp,ho,h1]
end
end Go.Av
set_option maxRecDepth 100000
set_option maxHeartbeats 4000000
namespace Go.Proofs.YtooohdocabpblaaGreatDoor
open Av RowKit Proofs.Tryz
structure KeyOk(S:Std):Prop where
 people:∃ t z,S 0=some (.cells (PeopleL.map fun x=>Value.string ⟨x.toArray⟩).toArray t z)
 sites:∃ t z,S 1=some (.cells (SitesL.map fun x=>Value.string ⟨x.toArray⟩).toArray t z)
theorem lowS(L:List Int)(k:Int)(n:Nat):lowB n (.arr 2 [str L k])=true:=rfl
def crewT(L:List Int)(k:Int)(ms:List Minor)(ps:List Pers)(ss:List Site)(rs:List Road):LB :=
 [.arr 2 [str L k],.arr 4 [.agg [.raw (.slice none 0 0),.raw (.slice none 0 0),.raw (.slice none 0 0),.raw (.slice none 0 0)]],.arr 4 [.agg [.sl 3 0 ms.length ms.length,.sl 4 0 ps.length ps.length,.sl 5 0 ss.length ss.length,.sl 6 0 rs.length rs.length]],
  .arr 5 (ms.map minorA),.arr 9 (ps.map persA),.arr 3 (ss.map siteA),.arr 3 (rs.map roadA)]
theorem AjE{n:Nat}(h:7<=n)(L:List Int)(k:Int)(ms:List Minor)(ps:List Pers)(ss:List Site)(rs:List Road):(crewT L k ms ps ss rs).all (lowB n)=true:=by
 have h1:lowB n (.arr 4 [.agg [.sl 3 0 ms.length ms.length,.sl 4 0 ps.length ps.length,.sl 5 0 ss.length ss.length,.sl 6 0 rs.length rs.length]])=true:=by
  simp[lowB,flat,cellsOf,lowC]
  omega
 simp only[crewT,lay,List.all_nil,h1,lowS,show lowB n (.arr 5 (ms.map minorA))=true from AbV (AoG ms),show lowB n (.arr 9 (ps.map persA))=true from AbV (ArV ps),show lowB n (.arr 3 (ss.map siteA))=true from AbV (ArW ss),show lowB n (.arr 3 (rs.map roadA))=true from AbV (ArX rs),lbg,Bool.true_and];rfl
theorem AmD(id e:Nat)(L:LA)(l:List Pers):(l.map persA).map (frzC id e L)=l.map persA:=List.map_map.trans (lbl fun _ _=>rfl)
theorem AmE(id e:Nat)(L:LA)(l:List Site):(l.map siteA).map (frzC id e L)=l.map siteA:=List.map_map.trans (lbl fun _ _=>rfl)
theorem AmF(id e:Nat)(L:LA)(l:List Road):(l.map roadA).map (frzC id e L)=l.map roadA:=List.map_map.trans (lbl fun _ _=>rfl)
def keyN(i:Nat):LU:=SitesL.getD i []
def loN(i j:Nat):LU:=xmms false (keyN i) (keyN j)
def hiN(i j:Nat):LU:=xmms true (keyN i) (keyN j)
theorem AxH:∀ i<4,∀ j<i,bytesLess (loN i j) (hiN i j)=true:=by decide +kernel
theorem AxI:((List.range 4).all fun i=>(List.range i).all fun j=>(List.range 4).all fun i'=>(List.range i').all fun j'=>!(loN i j==loN i' j'&&hiN i j==hiN i' j')||(i==i'&&j==j'))=true:=by decide +kernel
theorem A0P(i:Nat)(hi:i<4)(j:Nat)(hj:j<i)(i':Nat)(hi':i'<4)(j':Nat)(hj':j'<i')(h1:loN i j=loN i' j')(h2:hiN i j=hiN i' j'):i=i'/\j=j':=by
 have:=List.all_eq_true.1 (List.all_eq_true.1 (List.all_eq_true.1 (List.all_eq_true.1 AxI i (by simpa using hi)) j (by simpa using hj)) i' (by simpa using hi')) j' (by simpa using hj');rw[h1,h2]at this
 simpa using this
theorem A0Q{n i j:Nat}(hn:n<=4)(hi:i<n)(hj:j<i):loN i j∈SitesL.take n/\hiN i j∈SitesL.take n:=by
 have h1:∀ q<n,keyN q∈SitesL.take n:=by
  intro q hq;have hq4:q<SitesL.length:=by simp[SitesL]; omega
  have:keyN q=SitesL[q]:=by simp[keyN,List.getD,hq4]
  rw[this];exact List.mem_take_iff_getElem.2 ⟨q,by omega,rfl⟩
 unfold loN hiN xmms
 constructor
 .simp only [lap]
  cases(bytesLess (keyN i) (keyN j)||keyN i==keyN j)
  .exact h1 j (by omega)
  .exact h1 i hi
 .simp only [lai]
  cases bytesLess (keyN i) (keyN j)
  .exact h1 i hi
  .exact h1 j (by omega)
def RoadsD(n i j:Nat)(rs:List Road):Prop:=(∀ r∈rs,∃ i' j',j'<i'/\i'<n/\(i'<i\/i'=i/\j'<j)/\r.a=loN i' j'/\r.b=hiN i' j'/\1<=r.m/\r.m<=90)/\rs.Pairwise fun a b=>¬ (a.a=b.a/\a.b=b.b)
theorem RoadsD.more{n i j i2 j2:Nat}{rs:List Road}(h:RoadsD n i j rs)(hle:i<i2\/i=i2/\j<=j2):RoadsD n i2 j2 rs:=by
 refine⟨fun r hr=>?_,h.2⟩;obtain⟨a,b,h1,h2,h3,h4⟩:=h.1 r hr;exact⟨a,b,h1,h2,by omega,h4⟩
theorem RoadsD.push{n i j:Nat}{rs:List Road}{m:Int}(h:RoadsD n i j rs)(hn:n<=4)(hi:i<n)(hj:j<i)(h1:1<=m)(h2:m<=90):RoadsD n i (j+1) (rs++[⟨loN i j,hiN i j,m⟩]):=by
 refine⟨fun r hr=>?_,?_⟩
 .rcases List.mem_append.1 hr with hr|hr
  .exact (h.more (i2:=i) (j2:=j+1) (by omega)).1 r hr
  .rw [List.mem_singleton.1 hr]
   exact⟨i,j,hj,hi,by omega,rfl,rfl,h1,h2⟩
 .refine List.pairwise_append.2 ⟨h.2,by simp,fun a ha b hb=>?_⟩
  rw[List.mem_singleton.1 hb];rintro⟨e1,e2⟩;obtain⟨a',b',q1,q2,q3,q4,q5,_⟩:=h.1 a ha;have:=A0P a' (by omega) b' q1 i (by omega) j hj (q4.symm.trans e1) (q5.symm.trans e2);omega
theorem RoadsD.ok{n:Nat}{rs:List Road}{ss:List Site}(h:RoadsD n n 0 rs)(hn:n<=4)(hs:ss.map (·.key)=SitesL.take n):(∀ r∈rs,r.a∈ss.map (·.key)/\r.b∈ss.map (·.key)/\bytesLess r.a r.b=true/\1<=r.m/\r.m<=1440)/\rs.Pairwise fun a b=>¬ (a.a=b.a/\a.b=b.b):=by
 refine⟨fun r hr=>?_,h.2⟩;obtain⟨a',b',q1,q2,q3,q4,q5,q6,q7⟩:=h.1 r hr;have hm:=A0Q hn q2 q1;rw[hs,q4,q5];exact⟨hm.1,hm.2,AxH a' (by omega) b' q1,q6,by omega⟩
theorem pers0(key:LU):PersOk ⟨key,0,1,0,0,[],1,0,1⟩:=⟨by simp,by simp,by simp,by simp,by simp,by simp,by simp,by simp,.nil⟩
theorem site0(key:LU):SiteOk ⟨key,0,[⟨0,0,1⟩]⟩:=⟨by simp,by simp,by simp,by simp⟩
theorem AsG(l:List LU){j:Nat}(h:j<l.length):((l.map fun x=>Value.string ⟨x.toArray⟩).toArray)[j]? = some (.string ⟨(l[j]).toArray⟩):=by simp[h]
theorem AmG{α:Type}{f:α->LU}{K:List LU}{l:List α}{x:α}(h:l.map f=K.take l.length)(hl:l.length<K.length)(hx:f x=K[l.length]):(l++[x]).map f=K.take (l++[x]).length:=by
 rw[lav,h,lat,lan,lbm,lbc,lag hl,<- hx]; rfl
theorem A0R{S:Std}(hK:KeyOk S)(L:List Int)(k:Int)(h3:0<=k)(h4:k<=800000) :
  McH prog S 14 2 (str L k) [] (fun r s=>∃ (x:Crew) (k':Int),r=.agg (crewC x)/\CrewOk x/\s=str L k'/\k<=k'/\k'<=k+2000):=by
 refine zdIF func14 rfl fun h ρ w hg=>?_
 simp only[go_sem];refine zm 0 (AaM L k [0,0,1,2] (by decide) (by decide) (by omega) (by omega)) ?_;rintro _ _ ⟨⟨n,hn,rfl⟩,rfl⟩;have pn:0<=n/\n<=2:=(show ∀ x∈[(0:Int),0,1,2],0<=x/\x<=2 by decide) n hn;apply zgF;simp only[go_sem];refine AWp.shift (Shift.cells 2 5 [.agg [.sl 3 0 0 0,.raw (.slice none 0 0),.raw (.slice none 0 0),.raw (.slice none 0 0)]] rfl rfl (by simp[cellsOf]) ⟨.sl,.refl,.refl,.refl,trivial⟩) ?_;refine AWp.shift (Shift.cells 2 9 [.agg [.sl 3 0 0 0,.sl 4 0 0 0,.raw (.slice none 0 0),.raw (.slice none 0 0)]] rfl rfl (by simp[cellsOf]) ⟨.refl,.sl,.refl,.refl,trivial⟩) ?_;refine AWp.shift (Shift.cells 2 3 [.agg [.sl 3 0 0 0,.sl 4 0 0 0,.sl 5 0 0 0,.raw (.slice none 0 0)]] rfl rfl (by simp[cellsOf]) ⟨.refl,.refl,.sl,.refl,trivial⟩) ?_;refine AWp.shift (Shift.cells 2 3 [.agg [.sl 3 0 0 0,.sl 4 0 0 0,.sl 5 0 0 0,.sl 6 0 0 0]] rfl rfl (by simp[cellsOf]) ⟨.refl,.refl,.refl,.sl,trivial⟩) ?_;refine AbA (ι:=Int×Int×Int×List Minor) (κ:=Int×List Minor) (fun x=>(n-x.1).toNat)
  (fun x=>[(17,kI x.1),(16,kI n),(4,kI x.2.1),(3,.ptr 2 1 0 0),(2,.ptr 1 1 0 0),(0,.ptr 0 1 0 0)])
  (fun x=>crewT L x.2.2.1 x.2.2.2 [] [] [])
  (fun x=>0<=x.1/\x.1<=n/\0<=x.2.1/\x.2.1<=10*x.1/\k+1<=x.2.2.1/\x.2.2.1<=k+1+5*x.1/\(x.2.2.2.length:Int)=x.1/\(∀ a∈x.2.2.2,MinorOk a/\a.under<=x.2.1)/\x.2.2.2.Pairwise fun a b=>a.under<b.under)
  (fun x=>[(3,.ptr 2 1 0 0),(2,.ptr 1 1 0 0),(0,.ptr 0 1 0 0)]) (fun x=>crewT L x.1 x.2 [] [] [])
  (fun x=>k+1<=x.1/\x.1<=k+11/\x.2.length<=10/\(∀ a∈x.2,MinorOk a)/\x.2.Pairwise fun a b=>a.under<b.under)
  (0,0,k+1,[]) ⟨Int.le_refl _,by simp only; omega,Int.le_refl _,by simp,by simp,by simp,by simp,by simp,.nil⟩ ?_ ?_ ?_
 .refine Lg ?_ rfl
  simp only[go_sem]
 .rintro ⟨k1,ms⟩ ⟨f1,f2,f3,f4,f5⟩
  simp only at f1 f2 f3 f4 f5 |-;apply zgF;simp only[crewT];simp only[go_sem];refine zm 0 (AaX L k1 1 4 (by omega) (by omega) (by omega) (by omega) (by omega)) ?_;rintro _ _ ⟨⟨m,rfl,m1,m2⟩,rfl⟩;refine goF rfl 1 ?_;simp only[go_sem];have hm:((m.toNat:Nat):Int)=m:=by omega
  refine AsE (el:=9) (n:=6) rfl (by kernel_rfl) rfl (by omega) (by omega) (by omega) (by kernel_rfl) rfl ?_;refine goF rfl 1 ?_;simp only[go_sem];refine A2V (el:=9) rfl rfl rfl rfl (by kernel_rfl) rfl rfl ?_;rw[hm];apply zgF;simp only[go_sem];obtain⟨pt,pz,hpeople⟩:=hK.people;refine AbA (ι:=Int×Int×List Pers) (κ:=Int×List Pers) (fun x=>(m-x.1).toNat)
   (fun x=>[(50,kI x.1),(49,kI m),(48,.raw (.slice (some ⟨0,0,none⟩) m.toNat 6)),(3,.ptr 2 1 0 0),(2,.ptr 1 1 0 0),(0,.ptr 0 1 0 0)])
   (fun x=>crewT L x.2.1 ms x.2.2 [] [])
   (fun x=>0<=x.1/\x.1<=m/\k1+1<=x.2.1/\x.2.1<=k1+1+101*x.1/\(x.2.2.length:Int)=x.1/\x.2.2.map (·.key)=PeopleL.take x.2.2.length/\∀ a∈x.2.2,PersOk a)
   (fun x=>[(3,.ptr 2 1 0 0),(2,.ptr 1 1 0 0),(0,.ptr 0 1 0 0)]) (fun x=>crewT L x.1 ms x.2 [] [])
   (fun x=>k1+1<=x.1/\x.1<=k1+500/\(x.2.length:Int)=m/\x.2.map (·.key)=PeopleL.take x.2.length/\∀ a∈x.2,PersOk a)
   (0,k1+1,[]) ⟨Int.le_refl _,by simp only; omega,by simp,by simp,by simp,by simp,by simp⟩ ?_ ?_ ?_
  .refine Lg ?_ rfl
   simp only[go_sem]
  .rintro ⟨k3,ps⟩ ⟨q1,q2,q3,q4,q5⟩
   simp only at q1 q2 q3 q4 q5 |-;apply zgF;simp only[crewT];simp only[go_sem];refine zm 0 (AaX L k3 1 4 (by omega) (by omega) (by omega) (by omega) (by omega)) ?_;rintro _ _ ⟨⟨n2,rfl,n21,n22⟩,rfl⟩;refine goF rfl 1 ?_;simp only[go_sem];have hn2:((n2.toNat:Nat):Int)=n2:=by omega
   refine AsE (el:=9) (n:=4) rfl (by kernel_rfl) rfl (by omega) (by omega) (by omega) (by kernel_rfl) rfl ?_;refine goF rfl 1 ?_;simp only[go_sem];refine A2V (el:=9) rfl rfl rfl rfl (by kernel_rfl) rfl rfl ?_;rw[hn2];apply zgF;simp only[go_sem];obtain⟨st,sz,hsites⟩:=hK.sites;refine AbA (ι:=Int×Int×List Site) (κ:=Int×List Site) (fun x=>(n2-x.1).toNat)
    (fun x=>[(67,kI x.1),(66,kI n2),(65,.raw (.slice (some ⟨1,0,none⟩) n2.toNat 4)),(3,.ptr 2 1 0 0),(2,.ptr 1 1 0 0),(0,.ptr 0 1 0 0)])
    (fun x=>crewT L x.2.1 ms ps x.2.2 [])
    (fun x=>0<=x.1/\x.1<=n2/\k3+1<=x.2.1/\x.2.1<=k3+1+101*x.1/\(x.2.2.length:Int)=x.1/\x.2.2.map (·.key)=SitesL.take x.2.2.length/\∀ a∈x.2.2,SiteOk a)
    (fun x=>[(3,.ptr 2 1 0 0),(2,.ptr 1 1 0 0),(0,.ptr 0 1 0 0)]) (fun x=>crewT L x.1 ms ps x.2 [])
    (fun x=>k3+1<=x.1/\x.1<=k3+500/\(x.2.length:Int)=n2/\x.2.map (·.key)=SitesL.take x.2.length/\∀ a∈x.2,SiteOk a)
    (0,k3+1,[]) ⟨Int.le_refl _,by simp only; omega,by simp,by simp,by simp,by simp,by simp⟩ ?_ ?_ ?_
   .refine Lg ?_ rfl
    simp only[go_sem]
   .rintro ⟨k4,ss⟩ ⟨r1,r2,r3,r4,r5⟩
    simp only at r1 r2 r3 r4 r5 |-;obtain⟨N,hN⟩:∃ N,N=ss.length:=⟨_,rfl⟩;have hN4:N<=4:=by omega
    have hkey:∀ q (h:q<ss.length),ss[q].key=keyN q:=by
     intro q h;have hq:q<SitesL.length:=by simp[SitesL]; omega
     have h1:(ss.map (·.key))[q]? = (SitesL.take ss.length)[q]?:=by rw[r4]
     simp only[lbh,las h,lbr,lbq,h,if_true,las hq,lad]at h1
     simp[h1,keyN,List.getD,hq]
    apply zgF;simp only[crewT];simp only[go_sem,laa];subst hN;refine AbA (ι:=Nat×Int×List Road) (κ:=Int×List Road) (fun x=>ss.length-x.1)
     (fun x=>[(83,kI x.1),(82,kI ss.length),(81,.sl 5 0 ss.length ss.length),(3,.ptr 2 1 0 0),(2,.ptr 1 1 0 0),(0,.ptr 0 1 0 0)])
     (fun x=>crewT L x.2.1 ms ps ss x.2.2)
     (fun x=>x.1<=ss.length/\k4<=x.2.1/\x.2.1<=k4+10*x.1/\x.2.2.length<=4*x.1/\RoadsD ss.length x.1 0 x.2.2)
     (fun x=>[(3,.ptr 2 1 0 0),(2,.ptr 1 1 0 0),(0,.ptr 0 1 0 0)]) (fun x=>crewT L x.1 ms ps ss x.2)
     (fun x=>k4<=x.1/\x.1<=k4+40/\x.2.length<=16/\RoadsD ss.length ss.length 0 x.2)
     (0,k4,[]) ⟨by simp,by simp,by simp,by simp,⟨by simp,.nil⟩⟩ ?_ ?_ ?_
    .refine Lg ?_ ?_
     .simp only [go_sem]
     .simp only [crewT]; rfl
    .rintro ⟨k5,rs⟩ ⟨t1,t2,t3,t4⟩
     simp only at t1 t2 t3 t4 |-;simp only[crewT];refine AWp.shift (Shift.frz 3 rfl (AoG ms)) ?_;simp only[go_sem,↓AbK,↓AbW,↓AmD,↓AmE,↓AmF,frzE,frz,frz1,frzC,frzB,laa,lal,laf (show(ms.map minorA).length<=ms.length by simp)];refine AWp.shift (Shift.frz 4 rfl (ArV ps)) ?_;simp only[go_sem,↓AbK,↓AbW,↓AmD,↓AmE,↓AmF,frzE,frz,frz1,frzC,frzB,laa,lal,laf (show(ps.map persA).length<=ps.length by simp)];refine AWp.shift (Shift.frz 5 rfl (ArW ss)) ?_;simp only[go_sem,↓AbK,↓AbW,↓AmD,↓AmE,↓AmF,frzE,frz,frz1,frzC,frzB,laa,lal,laf (show(ss.map siteA).length<=ss.length by simp)];refine AWp.shift (Shift.frz 6 rfl (ArX rs)) ?_;simp only[go_sem,↓AbK,↓AbW,↓AmD,↓AmE,↓AmF,frzE,frz,frz1,frzC,frzB,laa,lal,laf (show(rs.map roadA).length<=rs.length by simp)];apply zgF;simp only[go_sem];exact AlS [.cell 2 31] rfl [_] ⟨by simp only[go_sem,sideIs,crewC],trivial⟩ ⟨_,_,rfl,⟨⟨ms,ps,ss,rs⟩,k5,rfl,⟨⟨f3,f4,f5⟩,⟨by simp only; omega,by simp only; omega,q4,q5⟩,⟨by simp only; omega,by simp only; omega,r4,r5⟩,t3,t4.ok hN4 r4⟩,rfl,by omega,by omega⟩,rfl,rfl⟩
    .rintro ⟨i,k2,rs⟩ ⟨g1,g2,g3,g4,g5⟩ J Q hJ hQ
     simp only at g1 g2 g3 g4 g5 hJ hQ |-
     by_cases gi:i<ss.length
     .have di:decide ((i:Int)<(ss.length:Int))=true:=by simp; omega
      have hil:i<ss.length:=by omega
      have hst:=AcO ss hil;have hki:=hkey i hil;apply zgF;simp only[crewT];simp only[go_sem,di,laa,hst,siteA]
      repeat refine aqe ?_
      refine AbA (ι:=Nat×Int×List Road) (κ:=Int×List Road) (fun x=>i-x.1)
       (fun x=>[(93,kI x.1),(92,kI i),(91,.sl 5 0 i ss.length),(11,.ptr 7 1 0 0),(83,kI i),(82,kI ss.length),(81,.sl 5 0 ss.length ss.length),(3,.ptr 2 1 0 0),(2,.ptr 1 1 0 0),(0,.ptr 0 1 0 0)])
       (fun x=>crewT L x.2.1 ms ps ss x.2.2++[.arr 3 [siteA ss[i]]])
       (fun x=>x.1<=i/\k2<=x.2.1/\x.2.1<=k2+2*x.1/\x.2.2.length<=rs.length+x.1/\RoadsD ss.length i x.1 x.2.2)
       (fun x=>[(83,kI i),(82,kI ss.length),(81,.sl 5 0 ss.length ss.length),(3,.ptr 2 1 0 0),(2,.ptr 1 1 0 0),(0,.ptr 0 1 0 0)]) (fun x=>crewT L x.1 ms ps ss x.2)
       (fun x=>k2<=x.1/\x.1<=k2+2*i/\x.2.length<=rs.length+i/\RoadsD ss.length (i+1) 0 x.2)
       (0,k2,rs) ⟨by simp,by simp,by simp,by simp,g5⟩ ?_ ?_ ?_
      .refine Lg ?_ ?_
       .simp only [go_sem,Int.sub_zero,Nat.sub_zero]
       .simp only [crewT,siteA]; rfl
      .rintro ⟨k5,rs2⟩ ⟨t1,t2,t3,t4⟩
       simp only at t1 t2 t3 t4 |-;apply zgF;simp only[crewT];simp only[go_sem]
       repeat refine ao ?_
       refine ainv (hJ (i+1,k5,rs2) ⟨by simp only; omega,by simp only; omega,by simp only; omega,by simp only; omega,t4⟩ (by simp only; omega)) (Lg ?_ rfl);simp only[go_sem];rfl
      .rintro ⟨j,k3,rs2⟩ ⟨t1,t2,t3,t4,t5⟩ J' Q' hJ' hQ'
       simp only at t1 t2 t3 t4 t5 hJ' hQ' |-
       by_cases gj:j<i
       .have dj:decide ((j:Int)<(i:Int))=true:=by simp; omega
        have hjl:j<ss.length:=by omega
        have hst2:=AcO ss hjl;have hkj:=hkey j hjl;have fin:∀ (k6:Int) (rs3:List Road),k3<=k6->k6<=k3+2->rs3.length<=rs2.length+1->RoadsD ss.length i (j+1) rs3->_:=fun k6 rs3 z1 z2 z3 z4=>hJ' (j+1,k6,rs3) ⟨by simp only; omega,by simp only; omega,by simp only; omega,by simp only; omega,z4⟩ (by simp only; omega)
        apply zgF;simp only[crewT];simp only[go_sem,dj,laa,hst2,siteA]
        repeat refine aqe ?_
        refine zm 0 (AdI L k3 6 (by omega) (by omega) (by omega) (by omega)) ?_;rintro _ _ ⟨⟨b,rfl⟩,rfl⟩
        cases b with
        | true =>
         apply zgF;simp only[go_sem];refine⟨by omega,by omega,?_⟩;refine ainv (fin (k3+1) rs2 (by omega) (by omega) (by omega) (t5.more (by omega))) (AaZ (crewT L (k3+1) ms ps ss rs2++[.arr 3 [siteA ss[i]]]) [.arr 3 [siteA ss[j]]] (by simp only[crewT,siteA]; rfl) (by simp) (by rw[lbd,AjE (by simp[crewT])]; rfl) ?_);simp only[go_sem,crewT];rfl
        | false =>
         apply zgF;simp only[go_sem];refine AkM [13] 0 [] AaL (by decide +kernel) rfl rfl 100 ?_;simp only[go_sem]
         repeat refine aqf ?_
         refine AgK (AaX L (k3+1) 1 90 (by omega) (by omega) (by omega) (by omega) (by omega)) rfl rfl rfl ⟨kI 1,_,⟨1,rfl,by omega,by omega⟩,rfl⟩ ?_;rintro _ _ ⟨⟨r,rfl,r1',r2'⟩,rfl⟩;simp only[go_sem,laa]
         repeat refine aqa ?_
         apply zgF;simp only[go_sem]
         repeat refine ao ?_
         have e3:rs2.map roadA++[.agg [.str (bif bytesLess ss[i].key ss[j].key||ss[i].key==ss[j].key then ss[i].key else ss[j].key),.str (bif bytesLess ss[i].key ss[j].key then ss[j].key else ss[i].key),kI r]]=(rs2++[(⟨loN i j,hiN i j,r⟩:Road)]).map roadA:=by
          simp only[roadA,loN,hiN,xmms,lai,lap,<- hki,<- hkj,lav,lak,List.map_nil]
         rw[e3,AhB rs2 (⟨loN i j,hiN i j,r⟩:Road)];refine ainv (fin (k3+1+1) (rs2++[⟨loN i j,hiN i j,r⟩]) (by omega) (by omega) (by simp) (t5.push (by omega) (by omega) (by omega) r1' r2')) (AaZ (crewT L (k3+1+1) ms ps ss (rs2++[⟨loN i j,hiN i j,r⟩])++[.arr 3 [siteA ss[i]]]) [.arr 3 [siteA ss[j]]] (by simp only[crewT,siteA]; rfl) (by simp) (by rw[lbd,AjE (by simp[crewT])]; rfl) ?_);simp only[go_sem,crewT];rfl
       .have dj:decide ((j:Int)<(i:Int))=false:=by simp; omega
        have hji:j=i:=by omega
        subst hji;apply zgF;simp only[crewT];simp only[go_sem,dj];refine ainv (hQ' (k3,rs2) ⟨by simp only; omega,by simp only; omega,by simp only; omega,t5.more (by omega)⟩) (AaZ (crewT L k3 ms ps ss rs2) [.arr 3 [siteA ss[j]]] (by simp only[crewT,siteA]; rfl) (by simp[crewT]) (AjE (by simp[crewT]) _ _ _ _ _ _) ?_);simp only[go_sem,crewT]
     .have di:decide ((i:Int)<(ss.length:Int))=false:=by simp; omega
      have hiN:i=ss.length:=by omega
      subst hiN;apply zgF;simp only[crewT];simp only[go_sem,di];refine ainv (hQ (k2,rs) ⟨by simp only; omega,by simp only; omega,by simp only; omega,g5⟩) (Lg ?_ rfl);simp only[go_sem]
   .rintro ⟨i,k2,ss⟩ ⟨g1,g2,g3,g4,g5,g6,g7⟩ J Q hJ hQ
    simp only at g1 g2 g3 g4 g5 g6 g7 hJ hQ |-
    by_cases gi:i<n2
    .have di:decide (i<n2)=true:=by simp; omega
     refine goF rfl 14 ?_;simp only[crewT];simp only[go_sem,di];refine AsF (el:=9) rfl (by kernel_rfl) (by kernel_rfl) rfl rfl (by omega) (by omega) rfl ?_;refine goF rfl 1 ?_;simp only[go_sem];have hil:i.toNat<SitesL.length:=by simp[SitesL]; omega
     refine AxG hg rfl (by kernel_rfl) rfl hsites (AsG SitesL hil) rfl ?_;apply zgF;simp only[go_sem];refine AkM [4] 0 [] AaL (by decide) rfl rfl 100 ?_;simp only[go_sem];refine AgK (A4L L k2 _ (by omega) (by omega)) rfl rfl rfl ⟨_,_,⟨SitesL[i.toNat],0,[⟨0,0,1⟩]⟩,k2,rfl,rfl,site0 _,rfl,by omega,by omega⟩ ?_;rintro _ _ ⟨x,k3',rfl,hx,px,rfl,x1,x2⟩;simp only[siteA];simp only[go_sem,laa]
     repeat refine aqa ?_
     apply zgF;simp only[go_sem]
     repeat refine aqa ?_
     have e3:ss.map siteA++[.agg [.str x.key,kI x.glow,.fz 3 (x.suns.map sunA)]]=(ss++[x]).map siteA:=by simp[siteA]
     rw[e3,AhB ss x];have hpl:ss.length<SitesL.length:=by simp[SitesL]; omega
     refine ainv (hJ (i+1,k3',ss++[x]) ⟨by simp only; omega,by simp only; omega,by simp only; omega,by simp only; omega,by simp; omega,AmG g6 hpl (by rw[hx]; congr 1; omega),fun a ha=>?_⟩ (by simp only; omega)) (Lg ?_ rfl)
     .rcases List.mem_append.1 ha with ha|ha
      .exact g7 a ha
      .rw [List.mem_singleton.1 ha]; exact px
     .simp only [go_sem]
    .have di:decide (i<n2)=false:=by simp; omega
     apply zgF;simp only[crewT];simp only[go_sem,di];refine ainv (hQ (k2,ss) ⟨by simp only; omega,by simp only; omega,by simp only; omega,g6,g7⟩) (Lg ?_ rfl);simp only[go_sem]
  .rintro ⟨i,k2,ps⟩ ⟨g1,g2,g3,g4,g5,g6,g7⟩ J Q hJ hQ
   simp only at g1 g2 g3 g4 g5 g6 g7 hJ hQ |-
   by_cases gi:i<m
   .have di:decide (i<m)=true:=by simp; omega
    refine goF rfl 14 ?_;simp only[crewT];simp only[go_sem,di];refine AsF (el:=9) rfl (by kernel_rfl) (by kernel_rfl) rfl rfl (by omega) (by omega) rfl ?_;refine goF rfl 1 ?_;simp only[go_sem];have hil:i.toNat<PeopleL.length:=by simp[PeopleL]; omega
    refine AxG hg rfl (by kernel_rfl) rfl hpeople (AsG PeopleL hil) rfl ?_;apply zgF;simp only[go_sem];refine AkM [4] 0 [] AaL (by decide) rfl rfl 100 ?_;simp only[go_sem];refine AgK (AwR L k2 _ (by omega) (by omega)) rfl rfl rfl ⟨_,_,⟨PeopleL[i.toNat],0,1,0,0,[],1,0,1⟩,k2,rfl,rfl,pers0 _,rfl,by omega,by omega⟩ ?_;rintro _ _ ⟨x,k3,rfl,hx,px,rfl,x1,x2⟩;simp only[persA];simp only[go_sem,laa]
    repeat refine aqa ?_
    apply zgF;simp only[go_sem]
    repeat refine aqa ?_
    have e3:ps.map persA++[.agg [.str x.key,kI x.born,kI x.week,kI x.fr,kI x.til,.fz 2 (x.away.map spanA),kI x.long,kI x.rest,kI x.row]]=(ps++[x]).map persA:=by simp[persA]
    rw[e3,AhB ps x];have hpl:ps.length<PeopleL.length:=by simp[PeopleL]; omega
    refine ainv (hJ (i+1,k3,ps++[x]) ⟨by simp only; omega,by simp only; omega,by simp only; omega,by simp only; omega,by simp; omega,AmG g6 hpl (by rw[hx]; congr 1; omega),fun a ha=>?_⟩ (by simp only; omega)) (Lg ?_ rfl)
    .rcases List.mem_append.1 ha with ha|ha
     .exact g7 a ha
     .rw [List.mem_singleton.1 ha]; exact px
    .simp only [go_sem]
   .have di:decide (i<m)=false:=by simp; omega
    apply zgF;simp only[crewT];simp only[go_sem,di];refine ainv (hQ (k2,ps) ⟨by simp only; omega,by simp only; omega,by simp only; omega,g6,g7⟩) (Lg ?_ rfl);simp only[go_sem]
 .rintro ⟨i,un,k2,ms⟩ ⟨g1,g2,g3,g4,g5,g6,g7,g8,g9⟩ J Q hJ hQ
  simp only at g1 g2 g3 g4 g5 g6 g7 g8 g9 hJ hQ |-
  by_cases gi:i<n
  .have di:decide (i<n)=true:=by simp; omega
   apply zgF;simp only[crewT];simp only[go_sem,di];refine zm 0 (AaX L k2 1 10 (by omega) (by omega) (by omega) (by omega) (by omega)) ?_;rintro _ _ ⟨⟨v,rfl,v1,v2⟩,rfl⟩;apply zgF;simp only[go_sem];refine⟨by omega,by omega,?_⟩;refine zm 0 (AaM L (k2+1) [0,360,420,600] (by decide) (by decide) (by omega) (by omega)) ?_;rintro _ _ ⟨⟨early,hea,rfl⟩,rfl⟩;have p1:0<=early/\early<=600:=(show ∀ x∈[(0:Int),360,420,600],0<=x/\x<=600 by decide) early hea;apply zgF;simp only[go_sem];refine AkM [5,11,14] 0 [] AaL (by decide) rfl rfl 100 ?_;simp only[go_sem];refine AgK (AaM L (k2+1+1) [120,300,480,900] (by decide) (by decide) (by omega) (by omega)) rfl rfl rfl ⟨kI 120,_,⟨120,by simp,rfl⟩,rfl⟩ ?_;rintro _ _ ⟨⟨long,hlo,rfl⟩,rfl⟩;simp only[go_sem];refine⟨by omega,by omega,?_⟩;refine AgK (AaM L (k2+1+1+1) [early+1,1110,1320,2880] (by simp) (by simp) (by omega) (by omega)) rfl rfl rfl ⟨kI 1110,_,⟨1110,by simp,rfl⟩,rfl⟩ ?_;rintro _ _ ⟨⟨late,hla,rfl⟩,rfl⟩;simp only[go_sem];refine AgK (AaM L (k2+1+1+1+1) [0,600,720,1000] (by decide) (by decide) (by omega) (by omega)) rfl rfl rfl ⟨kI 0,_,⟨0,by simp,rfl⟩,rfl⟩ ?_;rintro _ _ ⟨⟨rest,hre,rfl⟩,rfl⟩;simp only[go_sem,laa];have pl:1<=long/\long<=1440:=(show ∀ x∈[(120:Int),300,480,900],1<=x/\x<=1440 by decide) long hlo;have pr:0<=rest/\rest<=2880:=(show ∀ x∈[(0:Int),600,720,1000],0<=x/\x<=2880 by decide) rest hre;have pa:early+1<=late/\late<=2880:=by
    simp only[lbf,List.not_mem_nil,or_false]at hla;omega
   have e3:ms.map minorA++[.agg [kI (un+v),kI long,kI early,kI late,kI rest]]=(ms++[(⟨un+v,long,early,late,rest⟩:Minor)]).map minorA:=by simp[minorA]
   repeat refine aqa ?_
   apply zgF;simp only[go_sem]
   repeat refine aqa ?_
   rw[e3,AhB ms (⟨un+v,long,early,late,rest⟩:Minor)];refine ainv (hJ (i+1,un+v,k2+1+1+1+1+1,ms++[⟨un+v,long,early,late,rest⟩]) ⟨by simp only; omega,by simp only; omega,by simp only; omega,by simp only; omega,by simp only; omega,by simp only; omega,by simp; omega,fun a ha=>?_,?_⟩ (by simp only; omega)) (Lg ?_ rfl)
   .simp only
    rcases List.mem_append.1 ha with ha|ha
    .have:=g8 a ha; exact⟨this.1,by omega⟩
    .rw [List.mem_singleton.1 ha]
     exact⟨⟨by simp only; omega,pl,by simp only; omega,by simp only; omega,pr⟩,Int.le_refl _⟩
   .refine List.pairwise_append.2 ⟨g9,by simp,fun a ha b hb=>?_⟩
    rw[List.mem_singleton.1 hb];have:=g8 a ha;simp only; omega
   .simp only [go_sem]
  .have di:decide (i<n)=false:=by simp; omega
   apply zgF;simp only[crewT];simp only[go_sem,di];refine ainv (hQ (k2,ms) ⟨by simp only; omega,by simp only; omega,by simp only; omega,fun a ha=>(g8 a ha).1,g9⟩) (Lg ?_ rfl);simp only[go_sem]
end Go.Proofs.YtooohdocabpblaaGreatDoor
namespace Go.Proofs.YtooohdocabpblaaGreatDoor
open Av RowKit ChangeShapes WideShapes ChangeAt Proofs.Tryz
def strD{H:Type}(zs:List LU):DataW H:=.agg (zs.map fun z=>.lit (.string z))
theorem AmH{H:Type}{enc:TypeId×Value->H}{P:Program}{w:World}{base:Nat}{sp:Nat->Bool}{held:Bool}{fuel:Nat}{t e:TypeId}{n:Nat}{cs:List Value}{zs:List LU}{p:List MemPlace}
  (ht:P.underlying t=some (.array n e)) (he:P.underlying e=some .string) (hce:P.cellsOf e=1) (hct:P.cellsOf t=n)
  (h:DataW.trod enc P w base sp held fuel t cs=some (strD zs,p)):cs=zs.map fun z=>Value.string ⟨z.toArray⟩:=by
 cases fuel with
 | zero=>simp[DataW.trod]at h
 | succ fuel =>
  simp only[DataW.trod,ht,hce,hct,Nat.mul_one]at h
  split at h
  .rename_i hl
   obtain⟨xs,hm,hx⟩:=Option.map_eq_some_iff.1 h;have hxs:xs.map (·.1)=zs.map fun z=>(DataW.lit (.string z):DataW H):=by
    have:=congrArg Prod.fst hx
    simpa[strD]using this
   have hxl:xs.length=n:=by simpa using Lib.mapM_length hm
   have hzl:zs.length=n:=by
    have:=congrArg List.length hxs
    simp at this
    omega
   apply List.ext_getElem?;intro i
   by_cases hi:i<n
   .obtain ⟨b,hb,hf⟩:=Lib.mapM_at hm i i (by simp[hi])
    obtain⟨s,hc,rfl,_⟩:=DataW.trod_string he hf;have h1:cs[i]? = some (.string s):=by
     have:=congrArg (·[0]?) hc
     simpa[lbq,List.getElem?_drop]using this
    have h2:(xs.map (·.1))[i]? = some (DataW.lit (.string s.data.toList):DataW H):=by simp[hb]
    rw[hxs]at h2;simp only[lbh,Option.map_eq_some_iff,DataW.lit.injEq,Lit.string.injEq]at h2;obtain⟨z',hz',e2⟩:=h2;subst e2
    simp[h1,hz']
   .rw [List.getElem?_eq_none (by omega),List.getElem?_eq_none (by simp; omega)]
  .cases h
theorem AgV{P:Program}{W:World}{name:String}{zs:List LU}{rest:List (String×DataW Unit)}{g:Nat}{t e:TypeId}{n:Nat}
  (hg:P.globalNamed name=some g) (hty:(P.globals[g]?).map (·.type)=some t) (ht:P.underlying t=some (.array n e)) (he:P.underlying e=some .string) (hce:P.cellsOf e=1) (hct:P.cellsOf t=n)
  (h:laidMet P ((name,strD zs)::rest) W):W.var? P name=some (zs.map fun z=>Value.string ⟨z.toArray⟩).toArray:=by
 obtain⟨ps,⟨g',t',cs,fuel,p,q,hg',ht',hvar,hd,_,_⟩,_⟩:=h;obtain rfl:=Option.some.inj (hg.symm.trans hg');obtain rfl:=Option.some.inj (hty.symm.trans ht');rw[hvar,<- AmH ht he hce hct hd]
theorem AqP:Rows.laid_backlot_backmake_peopleKeys=strD (H:=Unit) PeopleL:=by kernel_rfl
theorem AuG:Rows.laid_backlot_backmake_siteKeys=strD (H:=Unit) SitesL:=by kernel_rfl
theorem A8Q{W:World}{laid:List (String×DataW Unit)}(hp:(laid.all fun x=>x.2.handleName?.isNone)=true)(hL:laidMetH prog laid W)
  (e1:laid.filter (fun x=>x.1 == "backlot/backmake.peopleKeys")=[("backlot/backmake.peopleKeys",Rows.laid_backlot_backmake_peopleKeys)])
  (e2:laid.filter (fun x=>x.1 == "backlot/backmake.siteKeys")=[("backlot/backmake.siteKeys",Rows.laid_backlot_backmake_siteKeys)]):KeyOk (AtZ W):=by
 rw [MakeChecks.laidMetH_plain _ _ _ hp] at hL;have h1:=hL.filter (fun x=>x.1 == "backlot/backmake.peopleKeys");have h2:=hL.filter (fun x=>x.1 == "backlot/backmake.siteKeys");rw [e1,AqP] at h1;rw [e2,AuG] at h2;refine ⟨?_,?_⟩
 .exact AhL (by kernel_rfl) (AgV (g:=0) (t:=115) (e:=9) (n:=6) (by kernel_rfl) (by kernel_rfl) underlying115 underlying9 (by kernel_rfl) (by kernel_rfl) h1)
 .exact AhL (by kernel_rfl) (AgV (g:=1) (t:=117) (e:=9) (n:=4) (by kernel_rfl) (by kernel_rfl) underlying117 underlying9 (by kernel_rfl) (by kernel_rfl) h2)
