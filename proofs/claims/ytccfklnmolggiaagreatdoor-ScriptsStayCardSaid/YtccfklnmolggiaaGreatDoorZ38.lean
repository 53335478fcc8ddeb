/- Two scripts that are the same. -/
import Derived.Test.YtccfklnmolggiaaGreatDoorZ37
set_option maxRecDepth 100000
set_option maxHeartbeats 4000000
set_option linter.all false
namespace Go.Proofs.YtccfklnmolggiaaGreatDoor
open Av RowKit Proofs.Tryz
theorem AxI(ps:List Pa)(hl:ps.length<1000000):Pc prog 35 [.fz 2 (ps.map paA),.fz 2 (ps.map paA)] (· = .bool true):=by
 have d0:((ps.length:Int) != (ps.length:Int))=false:=by simp
 refine zpIN func35 rfl fun h ρ w=>?_
 simp only[go_sem,d0,laa];refine AaI (ι:=Nat) (fun i=>ps.length-i) (fun i=>[(13,.int .i64 i),(12,.int .i64 ps.length),(1,.fz 2 (ps.map paA)),(0,.fz 2 (ps.map paA))]) (fun _=>[]) (fun i=>i<=ps.length) 0 (by simp) ?_ ?_
 .refine Lo ?_
  simp only[go_sem]
 .intro i g1 J hJ
  by_cases gi:i<ps.length
  .have di:decide ((i:Int)<(ps.length:Int))=true:=by simp; omega
   have hg':List.getD (List.map paA ps) i .any=.agg [.int .i64 ps[i].kind,.str ps[i].text]:=by simp[List.getD,gi,paA]
   apply zgN;simp only[go_sem,di,hg'];refine zr [] AaJ ?_;simp only[go_sem,hg',laa]
   repeat refine And.intro (by first|omega|simpa using gi|rfl) ?_
   refine⟨by kernel_rfl,?_⟩;apply zgN;simp only[go_sem];refine⟨by omega,by omega,?_⟩;rw[ic i];refine ainv (hJ (i+1) (by omega) (by omega)) (Lo ?_);simp only[go_sem]
  .have di:decide ((i:Int)<(ps.length:Int))=false:=by simp; omega
   apply zgN;simp only[go_sem,di];exact zt [4]
theorem AqZ(x:Sc)(hl:x.Lc.length<1000000):Pc prog 34 [scA x,scA x] (· = .bool true):=by
 have e1:(x.no==x.no)=true:=by simp
 have e2:(x.place==x.place)=true:=by simp
 have e3:(x.set==x.set)=true:=by simp
 have e4:(x.time==x.time)=true:=by simp
 simp only[scA];refine zpIN func34 rfl fun h ρ w=>?_
 simp only[go_sem,e1,e2,e3,e4];refine zpN (AxI x.Lc hl) ?_;simp only[go_sem,e1,e2,e3,e4];exact zt [4]
theorem AuP(b:Blk)(hb:lowB 2 b=true)(xs:List Sc)(hl:xs.length<1000000)(hp:∀ x∈xs,x.Lc.length<1000000) :
  Ct prog 33 [.fz 5 (xs.map scA),.fz 5 (xs.map scA),.fn (.func 34) []] [b,b] (fun r s=>r=.bool true/\s=[b,b]):=by
 have d0:((xs.length:Int) != (xs.length:Int))=false:=by simp
 refine zcIN func33 rfl fun h ρ w=>?_
 simp only[go_sem,d0,laa];refine AaI (ι:=Nat) (fun i=>xs.length-i) (fun i=>[(17,.int .i64 i),(16,.int .i64 xs.length),(15,.fz 5 (xs.map scA)),(2,.fn (.func 34) []),(1,.fz 5 (xs.map scA))]) (fun _=>[b,b]) (fun i=>i<=xs.length) 0 (by simp) ?_ ?_
 .refine Lo ?_
  simp only[go_sem]
 .intro i g1 J hJ
  by_cases gi:i<xs.length
  .have di:decide ((i:Int)<(xs.length:Int))=true:=by simp; omega
   have hg':List.getD (List.map scA xs) i .any=.agg [.str xs[i].no,.int .i64 xs[i].place,.str xs[i].set,.int .i64 xs[i].time,.fz 2 (xs[i].Lc.map paA)]:=by simp[List.getD,gi,scA]
   have hc:=AqZ xs[i] (hp _ (lai gi));simp only[scA]at hc;apply zgN;simp only[go_sem,di,hg',laa]
   repeat refine And.intro (by first|omega|simpa using gi|rfl) ?_
   refine zpN (hc) ?_;simp only[go_sem]
   repeat refine And.intro (by first|omega|simpa using gi|rfl) ?_
   rw[ic i];refine ainv (hJ (i+1) (by omega) (by omega)) (Shift.low 2 (by simp) (by simp) ?_ ?_)
   .simp only [lcb,List.take_zero,laz,List.all_nil,hb,lbo]
   .simp only [go_sem]
  .have di:decide ((i:Int)<(xs.length:Int))=false:=by simp; omega
   apply zgN;simp only[go_sem,di];exact zt [6]
theorem BiL(x:Sr)(hl:x.Lb.length<1000000)(hp:∀ y∈x.Lb,y.Lc.length<1000000):Pc prog 11 [srA x,srA x] (· = .bool true):=by
 have e1:(x.Lj==x.Lj)=true:=by simp
 simp only[srA];refine zpIN func11 rfl fun h ρ w=>?_
 simp only[go_sem,e1];refine za (AuP _ rfl x.Lb hl hp) ?_;rintro _ _ ⟨rfl,rfl⟩;apply zgN;simp only[go_sem,e1];exact zt [4]
theorem ArA{S:Std}(hS:LibOk S)(L:List Int)(k:Int)(h3:0<=k)(h4:k<=400000) :
  ∃ (x:Sr) (k':Int),AnX x/\McH prog S 4 2 (str L k) [] (fun r s=>r=srA x/\s=str L k'):=by
 have hf:=AhU L k 2 (by decide) (by decide) (by omega) (by omega)
 cases hb:flipF L k 2 with
 | true =>
  rw[hb]at hf;have hst:=A2M hS L (k+1) (by omega) (by omega);obtain⟨h1,_,_⟩:=A9D L (k+1);refine⟨numR (AfN L (k+1)).1,(AfN L (k+1)).2,⟨_,h1,.inr rfl⟩,?_⟩;generalize numR (AfN L (k+1)).1=x at hst |-;generalize (AfN L (k+1)).2=k' at hst |-;simp only[srA]at hst |-;refine zdIF func4 rfl fun h ρ w hg=>?_
  simp only[go_sem];refine zm 0 (hf) ?_;rintro _ _ ⟨rfl,rfl⟩;apply zgF;simp only[go_sem];refine zmH 0 hg (hst) ?_;rintro _ _ ⟨rfl,rfl⟩;apply zgF;simp only[go_sem];exact AbU [.cell 2 28] rfl [_] ⟨by simp only[go_sem,sideIs],trivial⟩ ⟨_,_,rfl,rfl,rfl,rfl,rfl⟩
 | false =>
  rw[hb]at hf;have hst:=AoN L (k+1) (by omega) (by omega);obtain⟨h1,_,_⟩:=AiU L (k+1);refine⟨(scriptF L (k+1)).1,(scriptF L (k+1)).2,⟨_,h1,.inl rfl⟩,?_⟩;generalize (scriptF L (k+1)).1=x at hst |-;generalize (scriptF L (k+1)).2=k' at hst |-;simp only[srA]at hst |-;refine zdIF func4 rfl fun h ρ w hg=>?_
  simp only[go_sem];refine zm 0 (hf) ?_;rintro _ _ ⟨rfl,rfl⟩;apply zgF;simp only[go_sem];refine zm 0 (hst) ?_;rintro _ _ ⟨rfl,rfl⟩;apply zgF;simp only[go_sem];exact AbU [.cell 2 28] rfl [_] ⟨by simp only[go_sem,sideIs],trivial⟩ ⟨_,_,rfl,rfl,rfl,rfl,rfl⟩
theorem A2N{S:Std}(hS:LibOk S)(x:Sr)(hx:ScriptOk x):PcH prog S 8 [srA x] (· = .tup [.fz 1 ((timesTo x.Lb x.Lb.length).map (.int .i64)),.int .i64 0]):=by
 have h1:=AeG hS x hx;have h2:=AzF x (by have:=hx.len; omega);simp only[srA]at h1 h2 |-;refine zqIB func8 rfl fun h ρ w hg=>?_
 simp only[go_sem];refine zqB hg (h1) ?_;simp only[go_sem];refine zpB (h2) ?_;simp only[go_sem];exact zt [2,3]
theorem A9E(k:Int)(p:List Ln)(hl:p.length<1000000000000000):Pc prog 40 [.agg [.int .i64 k,pgA p],.agg [.int .i64 k,pgA p]] (· = .bool true):=by
 have e1:(k==k)=true:=by simp
 have he:=AnQ p p hl hl;have e2:(p==p)=true:=by simp
 rw[e2]at he;simp only[pgA];refine zpIB func40 rfl fun h ρ w=>?_
 simp only[go_sem,e1];refine zpB (he) ?_;simp only[go_sem,e1];exact zt [4]
theorem BdO(ps:List (List Ln))(hl:ps.length<1000000)(hp:∀ p∈ps,p.length<1000000000000000) :
  Pc prog 39 [.fz 2 (pgI 0 ps),.fz 2 (pgI 0 ps),.fn (.func 40) []] (· = .bool true):=by
 have d0:((ps.length:Int) != (ps.length:Int))=false:=by simp
 have hpl:=pgI_len ps 0;refine zpIN func39 rfl fun h ρ w=>?_
 simp only[go_sem,hpl,d0];refine AaI (ι:=Nat) (fun i=>ps.length-i) (fun i=>[(17,.int .i64 i),(16,.int .i64 ps.length),(15,.fz 2 (pgI 0 ps)),(2,.fn (.func 40) []),(1,.fz 2 (pgI 0 ps))]) (fun _=>[]) (fun i=>i<=ps.length) 0 (by simp) ?_ ?_
 .refine Lo ?_
  simp only[go_sem]
 .intro i g1 J hJ
  by_cases gi:i<ps.length
  .have di:decide ((i:Int)<(ps.length:Int))=true:=by simp; omega
   have hg':=A7O ps 0 i gi;have hc:=A9E ((i+1:Nat):Int) ps[i] (hp _ (lai gi));simp only[pgA,lau]at hg' hc;apply zgN;simp only[go_sem,di,hg',hpl]
   repeat refine And.intro (by first|omega|exact .inl trivial|exact .inl (.inl trivial)|rfl|(simp; done)|(simp; omega)) ?_
   refine zpN (hc) ?_;simp only[go_sem]
   repeat refine And.intro (by first|omega|exact .inl trivial|exact .inl (.inl trivial)|rfl|(simp; done)|(simp; omega)) ?_
   rw[ic i];refine ainv (hJ (i+1) (by omega) (by omega)) (Shift.low 0 (by simp) (by simp) rfl ?_);simp only[go_sem]
  .have di:decide ((i:Int)<(ps.length:Int))=false:=by simp; omega
   apply zgN;simp only[go_sem,di];exact zt [6]
theorem A2O(ps:List (List Ln))(hl:ps.length<1000000)(hp:∀ p∈ps,p.length<1000000000000000):Pc prog 15 [.fz 2 (pgI 0 ps),.fz 2 (pgI 0 ps)] (· = .bool true):=by
 have he:=BdO ps hl hp;refine zpIN func15 rfl fun h ρ w=>?_
 simp only[go_sem];refine zpN (he) ?_;simp only[go_sem];exact zt [4]
theorem A9F{s:LB}:∀ (ps:List (List Ln))(b i:Nat),(∀ j (h:j<ps.length),s[b+j]? = some (pgB ps[j]))->(pgIW b i ps).map (borC 1 s)=pgI i ps
 | [],_,_,_=>rfl
 | p::r,b,i,h=>by
  have h0:=h 0 (by simp);have ih:=A9F r (b+1) (i+1) (fun j hj=>by
   have:=h (j+1) (by simpa using hj);rw[show b+1+j=b+(j+1) by omega]; exact this)
  simp only[Nat.add_zero,List.getElem_cons_zero]at h0;have e1:bor 1 s (pgW b p)=pgA p:=by
   unfold pgW pgA;rw[AeK (n:=0) (AbC h0) (by simp),AmM (fun _=>rfl)]
  simp only[pgIW,lah,ih,pgI];simp only[borC,lah,laq,e1];rfl
theorem AxJ{St:Std}(hS:LibOk St)(x:Sr)(h:LayOk x)(hn:(layL (allB x.Lb)).Lg.length<=1000000000000):PcH prog St 7 [srA x] (· = .tup [.fz 2 (pgI 0 (layL (allB x.Lb)).Lg),.int .i64 0]):=by
 refine PcH.mono (PcH.ofOwn 2 (AlZ hS x h hn [])) ?_;rintro _ ⟨_,s,⟨o,b,rfl,hL,_⟩,rfl⟩;simp only[borV,lah,laq];rw[borC_sl,AeK (n:=1) (AbC hL.row) (by rw[pgIW_len]),A9F _ _ _ hL.pg];rfl
def PgS(lo hi:Nat)(T:LB)(u:AV):Prop:=∃ rows,OwnL lo hi T 2 u rows/\rows.length<=100000/\∀ r∈rows,∃ (no:Int)(w:AV)(ls:List Ln),r=.agg [.int .i64 no,w]/\OwnL lo hi T 1 w (ls.map .str)/\ls.length<=1000000
theorem A0J:∀ (ps:List (List Ln))(b i:Nat),∀ r∈pgIW b i ps,∃ (no:Int)(j:Nat)(h:j<ps.length),r=.agg [.int .i64 no,pgW (b+j) ps[j]]
 | [],_,_,r,hr=>by cases hr
 | p::q,b,i,r,hr=>by
  rcases List.mem_cons.1 hr with rfl|hr
  .exact ⟨_,0,by simp,rfl⟩
  .obtain ⟨no,j,h,e⟩:=A0J q (b+1) (i+1) r hr
   exact⟨no,j+1,by simpa using h,by rw[e,show b+1+j=b+(j+1) by omega]; rfl⟩
theorem BdP{lo T o b ps}(h:LoT lo T o b ps)(h1:ps.length<=100000)(h2:∀ p∈ps,p.length<=1000000):PgS lo T.length T (.sl o 0 ps.length ps.length):=by
 refine⟨pgIW b 0 ps,.inr ⟨o,by rw[pgIW_len],h.lo1,AcG h.row,h.row⟩,by rw[pgIW_len]; exact h1,fun r hr=>?_⟩;obtain⟨no,j,hj,rfl⟩:=A0J ps b 0 r hr;have:=h.lo2;exact⟨no,_,ps[j],rfl,.inr ⟨b+j,by simp[pgW],by omega,AcG (h.pg j hj),h.pg j hj⟩,h2 _ (lai hj)⟩
theorem Ct.impW{P:Program}{f:FuncId}{args:LY}{s:LB}{p q:AV->LB->Prop}(h:Ct P f args s p)(hpq:∀ r s',p r s'->q r s'):Ct P f args s q :=
 ⟨h.1,fun hh ρ w vs m r=>(h.2 hh ρ w vs m r).mono fun en w' ⟨v,r,s1,h',ρ',e,hp,rest⟩=>⟨v,r,s1,h',ρ',e,hpq _ _ hp,rest⟩⟩
theorem sh_pas(n:Nat)(ps:List Pa):(ps.map paA).map (shC n)=ps.map paA:=by
 rw[List.map_map];exact lcc fun s _=>rfl
theorem A9G(T:LB)(ps:List Pa)(name:LU)(hl:ps.length<=10000)(ht:∀ p∈ps,p.text.length<=2000)(hn:name.length<=2000)(h0:∀ p,ps.head? = some p->joins p=false):Ct prog 27 [.fz 2 (ps.map paA),.str name] T (fun r s=>r=.sl T.length 0 (partL ps name).length (partL ps name).length/\s=T++[.arr 2 ((partL ps name).map paA)]) :=
 Ct.impW ((BbX ps name hl ht hn h0).liftN rfl (by rintro _ _ ⟨_,rfl⟩; rfl) T) (by
  rintro _ _ ⟨_,_,⟨rfl,rfl⟩,rfl,rfl⟩;simp only[shV,sh1,shB,lah,laq,lau,sh_pas,and_self])
theorem BiM(ps:List Pa)(name:LU)(hl:ps.length<=10000)(h0:∀ p,ps.head? = some p->joins p=false):(partL ps name).length<=100000000:=by
 have h1:=AnS ps;have h2:=AiK ps name (wordsL name) (groupsL ps) (groupsL ps).length;have h3:(groupsL ps).length*ps.length<=10000*10000:=Nat.mul_le_mul (by omega) hl;unfold partL;omega
theorem ScsS.push{lo hi T a n}(h:ScsS lo hi T (.sl a 0 n n))(hn:n+1<=100000){rows:LY}(hr:T[a]? = some (.arr 5 rows))(s:Sc)(w:AV)(hw:ParS lo hi T w):ScsS lo hi (T.set a (.arr 5 (rows++[rowW s w]))) (.sl a 0 (n+1) (n+1)):=by
 obtain⟨rows',e1,e2,e4,e5,e6,e3⟩:=h.unf;rw[hr]at e6;simp only[lam,Blk.arr.injEq,true_and]at e6;subst e6;refine⟨rows++[rowW s w],.inr ⟨a,by simp[e1],e4,e5,AbV (AcG hr) _⟩,by simp; omega,fun r hrr=>?_⟩
 rcases List.mem_append.1 hrr with hrr|hrr
 .exact (e3 r hrr).row hr
 .rw [lcf]at hrr
  subst hrr;exact RowS.row ⟨s,w,rfl,hw⟩ hr
theorem A2P{St:Std}(hS:LibOk St)(x:Sr)(hx:ScriptOk x)(name:LU)(hn:A4Z name=true)(hn2:name.length<=30)(T0:LB) :
  CtH prog St 9 [srA x,.str name] T0 (fun r T=>∃ u ti,∃ e:Int,r=.tup [.agg [.str ti,u],.int .i64 e]/\ScsS T0.length T.length T u/\Ext T0 T):=by
 have hck:=AeG hS x hx;obtain⟨ti,xs⟩:=x;have t3:=hx.len;have t4:=hx.many;have t5:=hx.ok;have htm:=AzF ⟨ti,xs⟩ (by simp only at t3 |-; omega);simp only at t3 t4 t5;simp only[srA]at hck htm;simp only[srA];refine zdIN func9 rfl fun h ρ w hg=>?_
 simp only[go_sem,gt_at0,gd_end,gt_at,gt_at0,st_at,st_at0,gd_end,st_end,lae];refine zqN hg (hck) ?_;simp only[go_sem];refine zqN hg (AfS hS name (by omega)) ?_;rw[hn];simp only[go_sem,laa,gt_at,gt_at0,st_at,st_at0,gd_end,st_end,lae];refine AaI (ι:=Nat×Nat×LB) (fun y=>xs.length-y.1)
  (fun y=>[(26,.int .i64 y.1),(25,.int .i64 xs.length),(24,.fz 5 (xs.map scA)),(7,.ptr (T0.length+2) 1 0 0),(4,.ptr (T0.length+1) 1 0 0),(2,.ptr T0.length 1 0 0),(1,.str name)])
  (fun y=>y.2.2) (fun y=>y.1<=xs.length/\y.2.1<=y.1/\ScsS (T0.length+3) y.2.2.length y.2.2 (.sl (T0.length+3) 0 y.2.1 y.2.1)/\Ext T0 y.2.2/\y.2.2[T0.length+2]? = some (.arr 2 [.agg [.str ti,.sl (T0.length+3) 0 y.2.1 y.2.1]])/\y.2.2[T0.length+1]? = some (.arr 2 [.agg [.str [],.raw (.slice none 0 0)]])/\y.2.2[T0.length]? = some (.arr 2 [.agg [.str ti,.fz 5 (xs.map scA)]]))
  (0,0,T0++[.arr 2 [.agg [.str ti,.fz 5 (xs.map scA)]],.arr 2 [.agg [.str [],.raw (.slice none 0 0)]],.arr 2 [.agg [.str ti,.sl (T0.length+3) 0 0 0]],.arr 5 []])
  ⟨lbq _,lab _,⟨[],.inr ⟨T0.length+3,rfl,lab _,by simp,by simp⟩,by simp,by simp⟩,(Ext.refl T0).app _,by simp,by simp,by simp⟩ ?_ ?_
 .refine Shift.trans (Shift.cells (es:=2) (l:=[.agg [.str ti,.raw (.slice none 0 0)]]) (T0.length+2) 5 [.agg [.str ti,.sl (T0.length+3) 0 0 0]] (by rw[gt_at]; rfl) rfl (by simp[cellsOf]) ?_) (Lp ?_ ?_)
  .refine ⟨.refl,?_,trivial⟩
   have:(T0++[Blk.arr 2 [AV.agg [AV.str ti,AV.fz 5 (List.map scA xs)]],Blk.arr 2 [AV.agg [AV.str [],AV.raw (Value.slice none 0 0)]],Blk.arr 2 [AV.agg [AV.str ti,AV.raw (Value.slice none 0 0)]]]).length=T0.length+3:=by simp
   rw[this];exact .sl
  .simp only [go_sem]
   try simp
  .rw [lae,st_at]
   rfl
 rintro⟨i,n,T⟩ ⟨g1,g0,g2,g3,g4,g5,g6⟩ J hJ;simp only at g1 g0 g2 g3 g4 g5 g6 hJ |-;have hlt:=AcG g4
 by_cases gi:i<xs.length
 .have di:decide ((i:Int)<(xs.length:Int))=true:=by simp; omega
  have hg':List.getD (List.map scA xs) i .any=.agg [.str xs[i].no,.int .i64 xs[i].place,.str xs[i].set,.int .i64 xs[i].time,.fz 2 (xs[i].Lc.map paA)]:=by simp[List.getD,gi,scA]
  have hsc:=BhC _ _ _ t5 xs[i] (lai gi);have hsm:=A6H xs xs[i] (lai gi);obtain⟨e,hr,_,_⟩:=hsc.run;have hcue:=AtC xs[i] name (by omega);simp only[scA]at hcue;have hpart:=fun T=>A9G T xs[i].Lc name (by omega) (fun p hp=>AgC (AlL _ _ _ hr p hp)) (by omega) (AqE hr)
  have hple:(partL xs[i].Lc name).length<=200000000:=by have:=BiM xs[i].Lc name (by omega) (AqE hr); omega
  generalize xs[i]=y at hg' hcue hpart hple;obtain⟨rows,e1,e2,e4,e5,e6,e3⟩:=g2.unf;have f1:∀ U,(T++U).getD (T0.length+2) .dead=.arr 2 [.agg [.str ti,.sl (T0.length+3) 0 n n]]:=AcB g4;have f2:∀ U,(T++U).getD (T0.length+3) .dead=.arr 5 rows:=AcB e6;have f3:∀ U Y,(T++U).set (T0.length+3) Y=T.set (T0.length+3) Y++U:=fun U Y=>AhL (AcG e6) U Y
  have f4:∀ U Y,(T.set (T0.length+3) Y++U).getD (T0.length+2) .dead=.arr 2 [.agg [.str ti,.sl (T0.length+3) 0 n n]]:=fun U Y=>AcB (AbE g4 (by omega) Y) U
  have f5:∀ U Y Z,(T.set (T0.length+3) Y++U).set (T0.length+2) Z=(T.set (T0.length+3) Y).set (T0.length+2) Z++U:=fun U Y Z=>AhL (by rw[lbp]; exact hlt) U Z
  have f6:∀ U,(T++U).getD T0.length .dead=.arr 2 [.agg [.str ti,.fz 5 (xs.map scA)]]:=AcB g6;have hlr:=e1;have hno:∀ U,_:=fun U=>hJ (i+1,n,T++U) ⟨by simp only; omega,by simp only; omega,(g2.app U).wide (lab _) (by simp),g3.app U,AaV g4 U,AaV g5 U,AaV g6 U⟩ (by simp only; omega)
  have hyes:∀ tm:Int,_:=fun tm=>hJ (i+1,n+1,(T.set (T0.length+3) (.arr 5 (rows++[rowW ⟨y.no,y.place,y.set,tm,[]⟩ (.sl (T.length+1) 0 (partL y.Lc name).length (partL y.Lc name).length)]))).set (T0.length+2) (.arr 2 [.agg [.str ti,.sl (T0.length+3) 0 (n+1) (n+1)]])++[.arr 5 [rowW ⟨y.no,y.place,y.set,tm,[]⟩ (.sl (T.length+1) 0 (partL y.Lc name).length (partL y.Lc name).length)],.arr 2 ((partL y.Lc name).map paA),.arr 5 [rowW ⟨y.no,y.place,y.set,tm,[]⟩ (.sl (T.length+1) 0 (partL y.Lc name).length (partL y.Lc name).length)]])
   ⟨by simp only; omega,by simp only; omega,by
    have h4:=((g2.app [.arr 5 [rowW ⟨y.no,y.place,y.set,tm,[]⟩ (.sl (T.length+1) 0 (partL y.Lc name).length (partL y.Lc name).length)],.arr 2 ((partL y.Lc name).map paA),.arr 5 [rowW ⟨y.no,y.place,y.set,tm,[]⟩ (.sl (T.length+1) 0 (partL y.Lc name).length (partL y.Lc name).length)]]).wide (hi':=T.length+3) (lab _) (by omega)).push (by omega) (AaV e6 _) ⟨y.no,y.place,y.set,tm,[]⟩ (.sl (T.length+1) 0 (partL y.Lc name).length (partL y.Lc name).length) ⟨partL y.Lc name,.inr ⟨T.length+1,by simp,by omega,by omega,by rw[lay (by omega),Nat.add_sub_cancel_left]; rfl⟩,hple⟩;have h5:=h4.below (j:=T0.length+2) (by omega) (.arr 2 [.agg [.str ti,.sl (T0.length+3) 0 (n+1) (n+1)]]);rw[AhL (AcG e6),AhL (by rw[lbp]; exact hlt)]at h5;refine h5.wide (lab _) ?_
    simp,by
    refine Ext.app (Ext.set (Ext.set g3 (by omega) _) (by omega) _) _,by
    simp only;exact AaV (AbV (by rw[lbp]; exact hlt) _) _,by
    simp only;exact AaV (AbE (AbE g5 (by omega) _) (by omega) _) _,by
    simp only;exact AaV (AbE (AbE g6 (by omega) _) (by omega) _) _⟩ (by simp only; omega)
  clear hJ;apply zgN;simp only[go_sem,di,hg',laa,gt_at,gt_at0,st_at,st_at0,gd_end,st_end,lae]
  repeat refine And.intro (by first|omega|exact .inl trivial|exact .inl (.inl trivial)|rfl|(simp; done)|(simp; omega)) ?_
  refine zpN (hcue) ?_
  cases hc:AeR y name with
  | false =>
   simp only[go_sem]
   repeat refine And.intro (by first|omega|exact .inl trivial|exact .inl (.inl trivial)|rfl|(simp; done)|(simp; omega)) ?_
   rw[ic i];refine ainv (hno _) (Lp ?_ rfl);simp only[go_sem]
  | true =>
   cases e5:y.time==5 with
   | false =>
    simp only[go_sem,e5,gt_at,gt_at0,st_at,st_at0,gd_end,st_end,lae]
    repeat refine And.intro (by first|omega|exact .inl trivial|exact .inl (.inl trivial)|rfl|(simp; done)|(simp; omega)) ?_
    refine za (hpart _) ?_;rintro _ _ ⟨rfl,rfl⟩;apply zgN;simp only[go_sem,f1,f2,f3,f4,f5,hlr,gt_at,gt_at0,st_at,st_at0,gd_end,st_end,lae]
    repeat refine And.intro (by first|omega|exact .inl trivial|exact .inl (.inl trivial)|rfl|(simp; done)|(simp; omega)) ?_
    rw[ic i];have fin:=hyes y.time;simp only[rowW]at fin;refine ainv fin (Lp ?_ rfl);simp only[go_sem]
   | true =>
    by_cases h0:n=0
    .have q0:((n:Int)==0)=true:=by simpa using h0
     simp only[go_sem,e5,f1,f2,f6,hlr,q0,gt_at,gt_at0,st_at,st_at0,gd_end,st_end,lae]
     repeat refine And.intro (by first|omega|exact .inl trivial|exact .inl (.inl trivial)|rfl|(simp; done)|(simp; omega)) ?_
     refine zpN (htm) ?_;have hti:List.getD (List.map (AV.int .i64) (timesTo xs xs.length)) i .any=.int .i64 ((timesTo xs xs.length).getD i 0):=by simp[List.getD,timesTo_len,gi]
     have htl:=timesTo_len xs xs.length;generalize (timesTo xs xs.length).getD i 0=tm at hti;simp only[go_sem,hti,laa,f1,f2,hlr,gt_at,gt_at0,st_at,st_at0,gd_end,st_end,lae]
     repeat refine And.intro (by first|omega|exact .inl trivial|exact .inl (.inl trivial)|rfl|(simp; done)|(simp; omega)) ?_
     refine za (hpart _) ?_;rintro _ _ ⟨rfl,rfl⟩;apply zgN;simp only[go_sem,f1,f2,f3,f4,f5,hlr,gt_at,gt_at0,st_at,st_at0,gd_end,st_end,lae]
     repeat refine And.intro (by first|omega|exact .inl trivial|exact .inl (.inl trivial)|rfl|(simp; done)|(simp; omega)) ?_
     rw[ic i];have fin:=hyes tm;simp only[rowW]at fin;refine ainv fin (Lp ?_ rfl);simp only[go_sem]
    .have q0:((n:Int)==0)=false:=by simpa using h0
     simp only[go_sem,e5,f1,f2,f6,hlr,q0,gt_at,gt_at0,st_at,st_at0,gd_end,st_end,lae]
     repeat refine And.intro (by first|omega|exact .inl trivial|exact .inl (.inl trivial)|rfl|(simp; done)|(simp; omega)) ?_
     refine za (hpart _) ?_;rintro _ _ ⟨rfl,rfl⟩;apply zgN;simp only[go_sem,f1,f2,f3,f4,f5,hlr,gt_at,gt_at0,st_at,st_at0,gd_end,st_end,lae]
     repeat refine And.intro (by first|omega|exact .inl trivial|exact .inl (.inl trivial)|rfl|(simp; done)|(simp; omega)) ?_
     rw[ic i];have fin:=hyes y.time;simp only[rowW]at fin;refine ainv fin (Lp ?_ rfl);simp only[go_sem]
 .have di:decide ((i:Int)<(xs.length:Int))=false:=by simp; omega
  obtain⟨rows,e1,e2,e4,e5,e6,e3⟩:=g2.unf;have k1:=AbC e6;have k4:=AbC g4;have k5:=AbC g5;have k6:∀ Z,(T.set (T0.length+1) Z).getD (T0.length+1) .dead=Z:=fun Z=>AbC (AbV (AcG g5) Z)
  clear hJ
  by_cases h0:n=0
  .have q0:((n:Int)==0)=true:=by simpa using h0
   apply zgN;simp only[go_sem,di,k1,k4,k5,e1,q0]
   repeat refine And.intro (by first|omega|exact .inl trivial|exact .inl (.inl trivial)|rfl|(simp; done)|(simp; omega)) ?_
   refine AbU [.cell 4 28,.tmp 5] rfl [.agg [.str [],.raw (.slice none 0 0)],.int .i64 8] ⟨by simp only[go_sem,sideIs,k6],rfl,trivial⟩ ⟨_,[],8,rfl,⟨[],.inl ⟨rfl,.inl rfl⟩,by simp,by simp⟩,g3.set (by omega) _⟩
  .have q0:((n:Int)==0)=false:=by simpa using h0
   apply zgN;simp only[go_sem,di,k1,k4,k5,e1,q0]
   repeat refine And.intro (by first|omega|exact .inl trivial|exact .inl (.inl trivial)|rfl|(simp; done)|(simp; omega)) ?_
   refine AbU [.cell 4 28,.tmp 5] rfl [.agg [.str ti,.sl (T0.length+3) 0 n n],.int .i64 0] ⟨by simp only[go_sem,sideIs,k6],rfl,trivial⟩ ⟨_,ti,0,rfl,?_,g3.set (by omega) _⟩;rw[lbp];exact(g2.below (by omega) _).wide (by omega) (lab _)
end Go.Proofs.YtccfklnmolggiaaGreatDoor
namespace Go.Av
open RowKit
section
variable {T e:TypeId}{B b:Nat}{l:LU}{c:Cx}{k:List It}{en:Env}{s:LB}
def AxK(P:Program)(f:FuncId)(T e:TypeId):Prop:=AaB P f=true/\∀ (B b:Nat)(l:LU)(x:UInt8)(w:World),Lib.IsBuilder T e B b (Lib.byteCells l) w->l.length+1<=140737488355328->B<=w.heap.size ->
 Calls P f #[.pointer (some ⟨b,0,none⟩),.int .u8 x.toNat] w fun en w'=>en=.returned .nilIface/\Lib.BuilderAt T e B b (.pointer (some ⟨b,0,none⟩)) (Lib.byteCells (l++[x])) w'/\Fr w w' b (rowOf w b) /\
  ∀ r,rowOf w' b=some r->rowOf w b=some r\/w.heap.size<=r
theorem AxL{f:FuncId}(hw:AxK c.P f T e){x:UInt8}{d:Option Tmp}{all os:List Oper}(hx:c.x=BldA T e B b l)(hB:B=c.w.heap.size){N:Nat}(hN:c.fn.ntmps=N)(hd:dOk N d=true)(hlen:l.length+1<=140737488355328)
  (hk:AWp { c with x:=BldA T e B b (l++[x]),hx:=ApL T e B b (l++[x]) } (.ops all os::k) (put en d (.raw .nilIface)) s) :
  AcW c f [.raw (.pointer (some ⟨b,0,none⟩)),.int .u8 x.toNat] d all os k en s:=by
 intro a w h ρ vs hm hl he hdf hsz hX hv;rw[hx]at hX;obtain⟨h1,h2,h3⟩:=hX;refine⟨hw.1,?_⟩;have hvs:vs=[.pointer (some ⟨b,0,none⟩),.int .u8 x.toNat]:=by
  cases hv with|cons r1 r2=>cases r2 with|cons r2 r3=>cases r3; rw[inv_raw r1,AaE r2]
 subst hvs;obtain⟨p,v,p1,p2,p3,p4,p5,p6⟩:=AhC h1;refine(hw.2 B b _ x w h1 hlen (by have:=hl.size; omega)).mono ?_;rintro en' w' ⟨rfl,hb,hf,hnew⟩;have hm':=hm.fr hf h2 h3;have hrow:∀ r,rowOf w b=some r->B<=r:=fun r hr=>by rw[p6]at hr; exact(p4.lt r hr).1
 have hl':Later c.h c.ρ c.sto c.w h ρ s w':=⟨hl.hle,hl.hnew,hl.keep,hf.os.trans hl.os,hf.tape.trans hl.tape,⟨hf.output.trans hl.output.1,trivial⟩,Nat.le_trans hl.size hf.size,fun k' hk' hno=>by
  rw[hf.block k' (lcd hk' hl.size) (by omega) (fun e=>by have:=hrow k' e.symm; omega)];exact hl.block k' hk' hno,hl.newown⟩
 have hbd:BldA T e B b (l++[x]) h ρ w':=by
  have hbi:Lib.IsBuilder T e B b (Lib.byteCells (l++[x])) w':=.inr hb;obtain⟨p',v',q1,q2,q3,q4,q5,q6⟩:=AhC hbi;refine⟨hbi,h2,fun r hr=>?_⟩
  rcases hnew r hr with hold|hrs
  .exact h3 r hold
  .exact ⟨fun i t hi=>by have:=hm.lt hi; omega,fun o=>by
    cases hq:h r o with
    | none=>rfl
    | some v=>have:=hm.memlt hq; omega⟩
 have:=hk (a.put d _) w' ⟨h,ρ,hm',hl',he.put (by rw[hsz,hN]; exact hd) (.raw _),by rw[AaC]; exact hdf,by rw[AaL]; exact hsz,hbd⟩;rw[WQ_x]at this;exact this
@[reducible] def Cx.bld (c:Cx) (T e:TypeId) (B b:Nat) (l:LU):Cx:={ c with x:=BldA T e B b l,hx:=ApL T e B b l }
theorem BdQ{c:Cx}{T e:TypeId}{B b:Nat}{l:LU}(hx:c.x=BldA T e B b l):c.bld T e B b l=c:=by
 cases c
 simp only at hx;subst hx;rfl
theorem bloop{c:Cx}{k:List It}{T e:TypeId}{B b:Nat}{C:Code}{ι:Type}(μ:ι->Nat)(E:ι->Env)(S:ι->LB)(L:ι->LU)(H:ι->Prop)(x0:ι)(hx:c.x=BldA T e B b (L x0))(hH:H x0){en:Env}{s:LB}
  (hs:Shift c en s (E x0) (S x0))
  (step:∀ x,H x->(∀ y,H y->μ y<μ x->∀ l',l'=L y->∀ e' s',Shift (c.bld T e B b l') e' s' (E y) (S y)->AWp (c.bld T e B b l') (.inv (Hd c.P C (WQ c k))::k) e' s') ->
   AWp (c.bld T e B b (L x)) (.code C::.inv (Hd c.P C (WQ c k))::k) (E x) (S x)) :
  AWp c (.code (.loop C)::k) en s:=by
 refine AWp.shift hs (AbD ?_);have key:∀ n x,μ x=n->H x->AHd (c.bld T e B b (L x)) C k (E x) (S x):=by
  intro n
  induction n using Nat.strongRecOn with
  | _ n ih =>
   rintro x rfl hx;have h1:=step x hx (fun y hy hlt l' hl' e' s' sh=>by
    subst hl';exact AWp.shift sh (ApM (c0:=c) rfl (ih _ hlt y rfl hy)))
   have e1:WQ (c.bld T e B b (L x)) k=WQ c k:=WQ_x c _ _ k;refine around ?_
   show AWp _ (.code C::.inv (Hd c.P C (WQ (c.bld T e B b (L x)) k))::k) _ _
   rw[e1];exact h1
 have:=key _ x0 rfl hH
 rwa [BdQ hx]at this
end
end Go.Av
namespace Go.Proofs.YtccfklnmolggiaaGreatDoor
open RowKit Lib Proofs.Tryz
open Go.Av (Fr rowOf AxK)
theorem ArB{w:World}{B:Nat}{v v':Value}{n:Nat}{xs:List Value}{x:Value}{ad:Addr}{c:Nat}{ty:TypeId}{w':World}{i:TypeInfo}(hi:prog.info? 5=some i)(hz:i.zero=some (.int .u8 0))(hsize:i.size=1)(hby:i.bytes=1)
  (hown:w.ownsRow B 5 1 v n xs) (hx:w.cell? (ad.add 0)=some x) (h1:x.oneCell'=true) (hb:n+1<=140737488355328) (hr:(Builtin.append_ #[107,107] ty #[v,.slice (some ad) 1 c]).run prog w=.ok v' w') :
  v'.ownBlock=none\/v'.ownBlock=v.ownBlock\/v'.ownBlock=some w.heap.size:=by
 have hxl:xs.length=n:=by simpa using hown.1
 have hnews:∀ j u,[x][j]? = some u->w.cell? (ad.add j)=some u:=fun j u hj=>by
  cases j with
  | zero=>simp only[List.getElem?_cons_zero,lam]at hj; rw[<- hj]; exact hx
  | succ j=>simp at hj
 have h1':∀ u∈[x],u.oneCell'=true:=fun u hu=>by rw[List.mem_singleton.1 hu]; exact h1
 rcases hown.2 with⟨rfl,rfl⟩|⟨g,cap,cur,rfl,hbg,hg,hnc,hcm,hcs,htake⟩
 .have h:=run_append_nil (P:=prog) w 107 ty 5 i (.int .u8 0) underlying107 hi hz ad 1 c [x] (by simp[hsize]) hnews (by omega) (by omega) (by rw[hby]; omega)
  rw[hr]at h;have:v'=.slice (some ⟨w.heap.size,0,none⟩) 1 (grownCap w 1 0 5):=(show v'=_/\w'=_ by simpa using h).1;rw[this]; exact .inr (.inr rfl)
 .by_cases hroom:n+1<=cap
  .have h:=run_append_room (P:=prog) w 107 ty 5 i underlying107 hi g n cap cur hg ad 1 c [x] (by simp[hsize]) hnews h1' hroom (by simp[hsize]; omega)
   rw[hr]at h;have:v'=.slice (some ⟨g,0,none⟩) (n+1) cap:=(show v'=_/\w'=_ by simpa using h).1;rw[this]; exact .inr (.inl rfl)
  .have h:=run_append_grow (P:=prog) w 107 ty 5 i (.int .u8 0) underlying107 hi hz ⟨g,0,none⟩ n cap xs (by rw[hsize]; simpa using hxl) (hown.cells (g:=g) rfl) ad 1 c [x] (by simp[hsize]) hnews (by omega) (by omega) (by rw[hby]; exact growslice_fits (by omega) (by omega))
   rw[hr]at h;have:v'=.slice (some ⟨w.heap.size,0,none⟩) (n+1) (grownCap w (n+1) cap 5):=(show v'=_/\w'=_ by simpa using h).1;rw[this]; exact .inr (.inr rfl)
theorem AnC{w:World}{ops:Array Oper}{rest:List Oper}{o:Oper}{a:Act}{Q:Exit->Act->World->Prop}(hgd:o.guard=none)(sl x:Operand)
  (ho:o.op=.call { callee:=.builtin .append,args:=#[sl,x],argTypes:=#[107,107] }) (B:Nat) (i:TypeInfo) (hi:prog.info? 5=some i) (hz:i.zero=some (.int .u8 0)) (hsize:i.size=1) (hby:i.bytes=1)
  (v:Value) (n:Nat) (xs:List Value) (hs:a.eval sl=v) (hown:w.ownsRow B 5 1 v n xs) (ad:Addr) (c:Nat) (u:Value) (hx:a.eval x=.slice (some ad) 1 c) (hu:w.cell? (ad.add 0)=some u) (h1:u.oneCell'=true) (hb:n+1<=140737488355328) (hB:B<=w.heap.size)
  (h:∀ v' w',w'.ownsRow B 5 1 v' (n+1) (xs++[u])->w.grownBy w' v.ownBlock->(v'.ownBlock=none\/v'.ownBlock=v.ownBlock\/v'.ownBlock=some w.heap.size)->wpList prog ops Q rest (a.put o.dst v') w'):wpList prog ops Q (o::rest) a w:=by
 refine wpList_plain hgd fun K hK=>?_
 have hnews:∀ j v,[u][j]? = some v->w.cell? (ad.add j)=some v:=fun j v hj=>by
  cases j with
  | zero=>simp only[List.getElem?_cons_zero,lam]at hj; rw[<- hj]; exact hu
  | succ j=>simp at hj
 obtain⟨v',w',hr,h2,h3,_⟩:=run_append_own (P:=prog) w B 107 o.type 5 i (.int .u8 0) 1 1 underlying107 hi hz hsize hby rfl (by omega) v n xs hown ad 1 c [u] rfl hnews (fun y hy=>by rw[List.mem_singleton.1 hy]; exact h1) (by unfold maxLen; omega) (by omega) hB;have hbk:=ArB hi hz hsize hby hown hu h1 hb hr;unfold Oper.wp execOp;simp only[ho,resolve,invoke,builtin,Sem.run_bind,Sem.run_pure,Result.andThen_ok,List.map_toArray,lah,laq,hs,hx,hr];exact hK _ _ (h v' w' h2 h3 hbk)
set_option maxRecDepth 100000 in
theorem wbyte(B b:Nat)(l:LU)(x:UInt8)(w:World)(h:IsBuilder 109 5 B b (Lib.byteCells l) w)(hlen:l.length+1<=140737488355328)(hBw:B<=w.heap.size) :
  Calls prog 65 #[.pointer (some ⟨b,0,none⟩),.int .u8 x.toNat] w fun e w'=>e=.returned .nilIface/\BuilderAt 109 5 B b (.pointer (some ⟨b,0,none⟩)) (Lib.byteCells (l++[x])) w' /\
   Fr w w' b (rowOf w b)/\∀ r,rowOf w' b=some r->rowOf w b=some r\/w.heap.size<=r:=by
 obtain⟨i0,hi,hz0,hz1,hz2⟩:=info_parts Tryz.Builder_Extra_169.infoByte
 go_enter func65,ntmps65
 go_wp2_with (go_at_call 107; refine(cc B b (Lib.byteCells l) _ h).mono ?_)
 rintro e w1 ⟨rfl,h1,hf,hc1⟩;obtain⟨hB,v,hbk,hown,hne⟩:=h1;have c0:w1.cell? ⟨b,0,none⟩=some (.pointer (some ⟨b,0,none⟩)):=by rw[cell_of_heap hbk]; rfl
 have c1:w1.cell? ⟨b,1,none⟩=some v:=by rw[cell_of_heap hbk]; rfl
 have hrow:rowOf w b=v.ownBlock:=by rw[rowOf,<- hc1,c1]; rfl
 clear hc1
 go_wp2_with (at_builtin; refine AnC rfl _ _ rfl B i0 hi hz0 hz1 hz2 _ _ _ rfl (hown.alloc _) ⟨w1.heap.size,0,none⟩ 1 (.int .u8 x.toNat) rfl ?c1 rfl ?c4 ?c5 ?_)
 case c1=>simp[Addr.add]
 case c4=>simpa[Lib.byteCells_length]using hlen
 case c5=>have:=hf.size; simp; omega
 intro v' w2 hown' hgrow hblk;have hlt:b<w1.heap.size:=by
  rcases Nat.lt_or_ge b w1.heap.size with h'|h'
  .exact h'
  .simp [Array.getElem?_eq_none h']at hbk
 have hb2:w2.heap[b]? = some (.cells #[.pointer (some ⟨b,0,none⟩),v] 109 (0,0)):=by
  rw[hgrow.block b (by simp; omega) (fun e=>hne e.symm),alloc_old w1 _ b hlt];exact hbk
 have d0:w2.cell? ⟨b,0,none⟩=some (.pointer (some ⟨b,0,none⟩)):=by rw[cell_of_heap hb2]; rfl
 have d1:w2.cell? ⟨b,1,none⟩=some v:=by rw[cell_of_heap hb2]; rfl
 have f1:w2.frozen? ⟨b,1,none⟩=false:=frozen_of_heap hb2 1;obtain⟨ao,n',cap,rfl⟩:∃ ao n' cap,v'=.slice ao n' cap:=by
  rcases hown'.2 with⟨hv,_⟩|⟨g,cap,cur,hv,_⟩
  .exact ⟨_,_,_,hv⟩
  .exact ⟨_,_,_,hv⟩
 go_wp2
 go_ret
 refine⟨rfl,BuilderAt.put (T:=109) (e:=5) hB hb2 (bs':=Lib.byteCells (l++[x])) (by simpa[Lib.byteCells,Lib.byteCells_length]using hown') (by decide),?_⟩;have hw2:rowOf (w2.setCell ⟨b,1,none⟩ (.slice ao n' cap)) b=Value.ownBlock (.slice ao n' cap):=by
  rw[rowOf,World.cell?_setCell_same _ _ _ d1]; rfl
 have hg1:=hgrow.size;have hg2:=hf.size;have hg1:w1.heap.size+1<=w2.heap.size:=by simpa using hg1
 rw[hrow];refine⟨⟨(hgrow.os.trans hf.os),(hgrow.tape.trans hf.tape),(hgrow.output.trans hf.output),by simp[World.setCell]; omega,fun k hk hkb hkr=>by
  rw[heap_setCell_other _ _ k _ hkb,hgrow.block k (by simp; omega) hkr,alloc_old w1 _ k (by omega),hf.block k hk hkb (by simp)]⟩,fun r hr=>?_⟩
 rw[hw2]at hr
 rcases hblk with h|h|h
 .rw [h]at hr; cases hr
 .rw [h]at hr; exact .inl hr
 .rw [h]at hr
  simp at hr
  exact .inr (by omega)
theorem ArC:AxK prog 65 109 5:=⟨hB65,fun B b l x w h h1 h2=>wbyte B b l x w h h1 h2⟩
