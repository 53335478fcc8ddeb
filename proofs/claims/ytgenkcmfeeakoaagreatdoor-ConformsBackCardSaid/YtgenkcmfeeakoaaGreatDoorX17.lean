/- Scripts with numbers from 1 on. -/
import Derived.Test.YtgenkcmfeeakoaaGreatDoorX16
import Derived.Shelf.Strings.OnBuilder
import Derived.Shelf.Strings.Fields
set_option maxRecDepth 100000
set_option maxHeartbeats 4000000
set_option linter.all false
namespace Go.Proofs.YtgenkcmfeeakoaaGreatDoor
open Av RowKit Proofs.Tryz
theorem clone0_pc:Pc prog 57 [.fz 5 []] (· = .fz 5 []):=by
 refine zpIN func57 rfl fun h ρ w=>?_
 simp only[go_sem];intro b;apply zgN
 cases b with
 | true =>
  simp only[go_sem];exact ARet.shift (Shift.nilfz 2 5 rfl) (aret [2] rfl ⟨rfl,rfl⟩)
 | false =>
  simp only[go_sem];refine⟨.inl trivial,?_⟩;exact ARet.shift (Shift.freeze 2 (id:=0) rfl rfl rfl (lad _) rfl) (aret [2] rfl ⟨rfl,rfl⟩)
theorem AmW(x:Sc)(xs:List Sc)(hl:xs.length<=100000) :
  Ct prog 57 [.fz 5 ((x::xs).map scA)] [] (fun r s=>r=.sl 0 0 (x::xs).length (x::xs).length/\s=[.arr 5 ((x::xs).map scA)]):=by
 refine zcIN func57 rfl fun h ρ w=>?_
 simp only[go_sem,scA];refine⟨by simp,by simp; omega,by simp; omega,aret [2] rfl ⟨by simp[resV,Av.get,scA],rfl⟩⟩
def nm(i:Nat)(x:Sc):Sc:={ x with no:=Lib.itoa ((i:Int)+1) }
def numL:Nat->List Sc->List Sc
 | _,[]=>[]
 | i,x::r=>nm i x::numL (i+1) r
def numR(x:Sr):Sr:=⟨x.Lk,numL 0 x.Lc⟩
theorem AxV{S:Std}(hS:LibOk S)(x:Sr)(hl:x.Lc.length<=1000):PcH prog S 20 [srA x] (· = srA (numR x)):=by
 obtain⟨ti,xs⟩:=x
 cases xs with
 | nil =>
  simp only[srA,las,numR,numL];refine zqIN func20 rfl fun h ρ w hg=>?_
  simp only[go_sem];refine AeB [] 99 [.fz 5 []] AaI (by decide) rfl rfl 100 ?_;simp only[go_sem];refine⟨clone0_pc.at,rfl,?_⟩;apply zgN;simp only[go_sem];refine AdZ (AcM (zgN ?_));simp only[go_sem];exact AcA [.cell 2 28] rfl [_] ⟨by simp only[go_sem,sideIs],trivial⟩ ⟨rfl,rfl⟩
 | cons x xs =>
  simp only[srA];refine zqIN func20 rfl fun h ρ w hg=>?_
  simp only[go_sem];refine AWp.shift (Shift.reserve 5) ?_;refine AeB [4] 2 [] AaI (by decide) rfl rfl 100 ?_;simp only[go_sem];have hfro:(flat ((x::xs).map scA)).all Av.frozen=true:=AaF (x::xs);refine AoG (AmW x xs (by simp at hl |-; omega)) (by simp) (by simp) rfl hfro rfl ?_;simp only[go_sem];apply zgN;simp only[go_sem];refine⟨by simp,?_⟩;have hys:AV.fz 5 (List.map scA (numR ⟨ti,x::xs⟩).Lc)=.fz 5 (List.map scA (numL 0 (x::xs))):=rfl;rw[hys];clear hys;have hl':xs.length+1<=1000:=by simpa using hl
  have hnum:∃ out,numL 0 (x::xs)=out:=⟨_,rfl⟩;obtain⟨out,hout⟩:=hnum;rw[hout];refine AaE (ι:=List Sc×List Sc) (fun y=>y.2.length)
   (fun y=>[(14,.int .i64 y.1.length),(13,.int .i64 ↑(xs.length+1)),(3,.ptr 3 1 0 0),(2,.ptr 1 1 0 0)])
   (fun y=>[.arr 2 [.agg [.str ti,.fz 5 (scA x::List.map scA xs)]],.arr 2 [.agg [.str [],.raw (.slice none 0 0)]],.arr 5 (List.map scA (y.1++y.2)),.arr 2 [.agg [.str ti,.sl 2 0 (xs.length+1) (xs.length+1)]]])
   (fun y=>y.1.length+y.2.length=xs.length+1/\y.1++numL y.1.length y.2=out) ([],x::xs) ⟨by simp,hout⟩ ?_ ?_
  .refine Lr ?_
   simp only[go_sem]
  .rintro ⟨dn,rest⟩ ⟨g1,g2⟩ J hJ
   simp only at g1 g2 hJ |-
   cases rest with
   | cons y r =>
    have di:decide ((dn.length:Int)<((xs.length+1:Nat):Int))=true:=by simp at g1 |-; omega
    apply zgN;simp only[go_sem,di];refine zr [.str (Lib.itoa ((dn.length:Int)+1))] AaI ?_;have hx:List.getD (List.map scA (dn++y::r)) dn.length .any=.agg [.str y.no,.int .i64 y.place,.str y.set,.int .i64 y.time,.fz 2 (y.Ld.map paA)]:=by simp[List.getD,scA]
    simp only[go_sem,hx];refine⟨by omega,by omega,(AdP hS _ (by omega) (by omega)).at hg,rfl,by simp at g1 |-; omega,by omega,by simp at g1 |-; omega,by omega,by simp,?_⟩;have hset:(List.map scA (dn++y::r)).set dn.length (.agg [.str (Lib.itoa ((dn.length:Int)+1)),.int .i64 y.place,.str y.set,.int .i64 y.time,.fz 2 (y.Ld.map paA)])=List.map scA ((dn++[nm dn.length y])++r):=by
     simp[nm,scA]
    rw[hset];apply zgN;simp only[go_sem];refine⟨by omega,by omega,?_⟩;rw[show(dn.length:Int)+1=((dn++[nm dn.length y]).length:Int) by simp];refine ainv (hJ (dn++[nm dn.length y],r) ⟨by simp at g1 |-; omega,by rw[<- g2]; simp[numL]⟩ (by simp)) (Lr ?_);simp only[go_sem]
   | nil =>
    have di:decide (((xs.length+1:Nat):Int)<((xs.length+1:Nat):Int))=false:=by simp
    simp only[lca,numL]at g2 |-;subst g2;have hn:dn.length=xs.length+1:=by simpa using g1
    refine AWp.shift (Shift.frz 2 rfl (AaF dn)) ?_;simp only[go_sem,frzE,frz,frz1,frzC,frzB,laa,hn,lad];have:List.take (xs.length+1) (List.map scA dn)=List.map scA dn:=laj (by simp; omega);simp only[this];apply zgN;simp only[go_sem,di];exact AcA [.cell 2 28] rfl [_] ⟨by simp only[go_sem,sideIs,numR],trivial⟩ ⟨rfl,rfl⟩
def DIG:LU:=[48,49,50,51,52,53,54,55,56,57]
def CAPS:LU:=[65,66,67,68,69,70,71,72,73,74,75,76,77,78,79,80,81,82,83,84,85,86,87,88,89,90]
theorem AxW{S:Std}(hS:LibOk S):PcH prog S 59 [.str []] (· = .tup [.int .i64 0,.any]):=by
 refine⟨hB59,fun h w vs' hg hm hv=>?_⟩;have:=AoL [] h vs' hv;subst this;obtain⟨te,pe,t,z,hs⟩:=hS.syn;have hcell:w.cell? ⟨Tryz.laysC172_ren.g 15,0,none⟩=some (.iface te pe):=(Lib.cell_of_heap (hg _ _ hs) 0).trans rfl;refine(Any.strconv_Atoi_err Tryz.laysC172 ⟨#[]⟩ (by decide) rfl (.iface te pe) w hcell (.inr ⟨te,pe,rfl⟩)).mono ?_;rintro e w' ⟨N,rfl,_,_,hb⟩;have hs:Same w w':=AfK hb;exact⟨_,_,h,rfl,rfl,fun b o v e=>⟨hs.cell (hm b o v e).1,(hm b o v e).2⟩,fun _ _ _ x=>x,fun b o e n=>(n e).elim,hs,.tup [_,_] [_,_] (.cons (.int _ _) (.cons (.any _) .nil))⟩
theorem AjU(s:LU)(hs:s.length<1000000)(h0:Lib.trimLeftS s DIG=[]):Pc prog 58 [.str s] (· = .tup [.str s,.str []]):=by
 refine zpIN func58 rfl fun h ρ w=>?_
 simp only[go_sem];refine zpN (AoE s DIG (by decide) (AbI (by decide))) ?_;rw[h0];have:List.take s.length s=s:=laz;simp only[go_sem,this];refine⟨by omega,by omega,by omega,by omega,?_⟩;refine aret [2,3] rfl ⟨?_,rfl⟩
 simp[resV,Av.get]
theorem BvX(s:LU)(a b:Int)(h1:a<=s.length)(h2:s.length<=b):Pc prog 62 [.str s,.int .i64 a,.int .i64 b] (· = .bool true):=by
 have d1:decide ((s.length:Int)>=a)=true:=by simpa using h1
 have d2:decide ((s.length:Int)<=b)=true:=by simpa using h2
 refine zpIN func62 rfl fun h ρ w=>?_
 simp only[go_sem,d1,d2];exact zt [6]
theorem BnQ:Pc prog 119 [.str [],.str CAPS] (· = .bool true):=by
 refine zpIN func119 rfl fun h ρ w=>?_
 simp only[go_sem];refine zpN (A2I [] CAPS (by decide) (by decide) (AbI (by decide))) ?_;rw[show Lib.trimS [] CAPS=[] from rfl];simp only[go_sem];exact zt [4]
theorem AoN(s:LU)(h0:Lib.trimLeftS s DIG=[])(h1:1<=s.length)(h2:s.length<=3)(h3:s.getD 0 0≠48):Pc prog 61 [.str s] (· = .bool true):=by
 have d3:(((s.getD 0 0).toNat:Int) != 48)=true:=by
  simp only[bne_iff_ne,ne_eq];intro e;exact h3 (UInt8.toNat_inj.1 (by simpa using(show(s.getD 0 0).toNat=48 by omega)))
 refine zpIN func61 rfl fun h ρ w=>?_
 simp only[go_sem];refine zpN (AjU s (by omega) h0) ?_;simp only[go_sem];refine zpN (BvX s 1 3 (by omega) (by omega)) ?_;simp only[go_sem];refine zpN (BnQ) ?_;simp only[go_sem];refine zpN (AbR [] [65] (by simp)) ?_;rw[show Lib.hasSuffix [] [65]=false from rfl];simp only[go_sem,d3];refine⟨by omega,?_⟩;exact zt [2]
theorem BeW(s:LU)(m:Int)(h0:Lib.trimLeftS s DIG=[])(h1:s.length<=18)(h2:Lib.atoi s=some m):Pc prog 38 [.str s,.str [57]] (· = .int .i64 (orI (cmpI m 9) 0)):=by
 refine zpIF func38 rfl fun h ρ w=>?_
 simp only[go_sem];refine zpF (AjU s (by omega) h0) ?_;simp only[go_sem];refine zpF (AjU [57] (by simp) rfl) ?_;simp only[go_sem];refine zpF (AoM s m h1 h2) ?_;simp only[go_sem];refine zpF (AoM [57] 9 (by simp) rfl) ?_;simp only[go_sem];refine zpF (ArR m 9) ?_;simp only[go_sem];refine zpF (AiO [] []) ?_;rw[show Lib.compareBytes [] []=0 from rfl];simp only[go_sem];refine zpF (B0E (cmpI m 9) 0) ?_;simp only[go_sem];exact zt [4]
def AbJ(n:Nat):LU:=if n=0 then[] else dig3 n
theorem AlE(j:Nat)(hj:j<5):Lib.trimLeftS (AbJ j) DIG=[]/\(AbJ j).length<=3/\(j≠0->Lib.atoi (AbJ j)=some (j:Int)) /\
  Lib.trimLeftS (dig3 ((j:Int)+1)) DIG=[]/\(dig3 ((j:Int)+1)).length=1/\(dig3 ((j:Int)+1)).getD 0 0≠48/\Lib.atoi (dig3 ((j:Int)+1))=some ((j:Int)+1)/\(dig3 ((j:Int)+1)==[])=false/\AbJ (j+1)=dig3 ((j:Int)+1):=by
 have:j=0\/j=1\/j=2\/j=3\/j=4:=by omega
 rcases this with rfl|rfl|rfl|rfl|rfl <;> exact⟨by decide,by decide,by decide,by decide,by decide,by decide,by decide,by decide,by decide⟩
theorem AvB{S:Std}(hS:LibOk S)(j:Nat)(hj:j<5)(b:LU)(hb:b=[]\/b=[57]):PcH prog S 23 [.str (AbJ j),.str b] (· = .tup [.str (AbJ (j+1)),.bool true]):=by
 obtain⟨f1,f2,f3,f4,f5,f6,f7,f8,f9⟩:=AlE j hj;rw[f9];have hit:=AdP hS ((j:Int)+1) (by omega) (by omega);rw[itoa_dig3 (by omega) (by omega)]at hit;have ho:=BeW (dig3 ((j:Int)+1)) ((j:Int)+1) f4 (by omega) f7;have hc:orI (cmpI ((j:Int)+1) 9) 0=-1:=by
  have:cmpI ((j:Int)+1) 9=-1:=by unfold cmpI; rw[if_pos (by omega)]
  rw[this]; rfl
 rw[hc]at ho;have hn:=AoN (dig3 ((j:Int)+1)) f4 (by omega) (by omega) f6;generalize dig3 ((j:Int)+1)=x at *;refine zqIN func23 rfl fun h ρ w hg=>?_
 simp only[go_sem];refine zpN (AjU (AbJ j) (by omega) f1) ?_;simp only[go_sem]
 by_cases h0:j=0
 .subst h0
  refine zqN hg (AxW hS) ?_;simp only[go_sem];refine AdZ (AcM (zgN ?_));simp only[go_sem];refine zqN hg (hit) ?_;simp only[go_sem];refine⟨.inl trivial,?_⟩;refine AdZ (AcM (zgN ?_));simp only[go_sem];refine zpN (hn) ?_;simp only[go_sem]
  rcases hb with rfl|rfl
  .simp only [go_sem]
   exact zt [4,5]
  .simp only [go_sem]
   refine zpN (ho) ?_;simp only[go_sem];exact zt [4,5]
 .refine zpN (AoM (AbJ j) j (by omega) (f3 h0)) ?_
  simp only[go_sem];refine AdZ (AcM (zgN ?_));simp only[go_sem];refine⟨by omega,by omega,?_⟩;refine zqN hg (hit) ?_;simp only[go_sem];refine⟨.inl trivial,?_⟩;refine AdZ (AcM (zgN ?_));simp only[go_sem];refine zpN (hn) ?_;simp only[go_sem]
  rcases hb with rfl|rfl
  .simp only [go_sem]
   exact zt [4,5]
  .simp only [go_sem]
   refine zpN (ho) ?_;simp only[go_sem];exact zt [4,5]
structure SceneOk(x:Sc):Prop where
 set:isSetL x.set=true
 len:x.set.length<1000000
 many:x.Ld.length<1000000
 run:∃ e,runL 0 x.Ld=some e/\e≠2/\e≠3
theorem AqW{S:Std}(hS:LibOk S)(x:Sc)(hx:SceneOk x):PcH prog S 155 [scA x] (· = .int .i64 0):=by
 obtain⟨e,hr,h2,h3⟩:=hx.run;have h4:=hx.many;simp only[scA];refine zqIN func155 rfl fun h ρ w hg=>?_
 simp only[go_sem];refine zqN hg (BeI hS x.set hx.len) ?_;rw[hx.set];simp only[go_sem];refine AaE (ι:=Nat×Int) (fun y=>x.Ld.length-y.1)
  (fun y=>[(14,.int .i64 y.1),(13,.int .i64 x.Ld.length),(12,.fz 2 (x.Ld.map paA)),(3,.int .i64 y.2)])
  (fun _=>[.arr 5 [.agg [.str x.no,.int .i64 x.place,.str x.set,.int .i64 x.time,.fz 2 (x.Ld.map paA)]]])
  (fun y=>y.1<=x.Ld.length/\runL y.2 (x.Ld.drop y.1)=some e) (0,0) ⟨by simp,hr⟩ ?_ ?_
 .refine Lr ?_
  simp only[go_sem,laa]
 .rintro ⟨i,l⟩ ⟨g1,g2⟩ J hJ
  simp only at g1 g2 hJ |-
  by_cases gi:i<x.Ld.length
  .have di:decide ((i:Int)<(x.Ld.length:Int))=true:=by simp; omega
   have hd:x.Ld.drop i=x.Ld[i]::x.Ld.drop (i+1):=lbc gi;rw[hd]at g2;simp only[runL]at g2
   split at g2
   rotate_left
   .cases g2
   rename_i hp;simp only[lae]at hp;have hg':List.getD (List.map paA x.Ld) i .any=.agg [.int .i64 x.Ld[i].kind,.str x.Ld[i].text]:=by simp[List.getD,gi,paA]
   have hpf:=AuS hS x.Ld[i] hp.1;simp only[paA]at hpf;apply zgN;simp only[go_sem,di,hg'];refine⟨by omega,by simpa using gi,by simpa using gi,?_⟩;refine zqN hg (hpf) ?_;simp only[go_sem];refine zpN (A9T x.Ld[i].kind l) ?_;rw[hp.2];simp only[go_sem];refine⟨by omega,by omega,?_⟩;rw[ic i];refine ainv (hJ (i+1,x.Ld[i].kind) ⟨by simp only; omega,g2⟩ (by simp only; omega)) (Shift.low 1 (by simp) (by simp) ?_ ?_)
   .simp only[go_sem,lowB,flat]
   .simp only [go_sem]
  .have di:decide ((i:Int)<(x.Ld.length:Int))=false:=by simp; omega
   have:i=x.Ld.length:=by omega
   subst this;rw[List.drop_length]at g2;simp only[runL,lao]at g2;subst g2;have q2:(l==2)=false:=by simpa using h2
   have q3:(l==3)=false:=by simpa using h3
   apply zgN;simp only[go_sem,di,q2,q3];exact zt [2]
def seenM(ks:List LU):List (AV×AV):=ks.map fun k=>(.str k,.bool true)
theorem mfind_out{k:LU}:∀ {ks:List LU}{n:Nat},k ∉ ks->mfind .string (.str k) (seenM ks) n=some none
 | [],n,_=>rfl
 | a::r,n,h=>by
  simp at h
  have:(k==a)=false:=by simpa using h.1
  simp only[seenM,lal,mfind,keyEq,this];exact mfind_out h.2
theorem A6K{k:LU}:∀ {ks:List LU}{n:Nat},k∈ks->∃ i,mfind .string (.str k) (seenM ks) n=some (some (n+i,.bool true))/\ks[i]? = some k
 | [],n,h=>by grind
 | a::r,n,h=>by
  by_cases e:k=a
  .subst e
   exact⟨0,by grind[seenM,mfind,keyEq],rfl⟩
  .obtain ⟨i,h1,h2⟩:=A6K (n:=n+1) ((List.mem_cons.1 h).resolve_left e)
   refine⟨i+1,?_,by simpa using h2⟩<;>grind[seenM,mfind,keyEq]
def dd(acc:List LU)(k:LU):List LU:=if k∈acc then acc else acc++[k]
def AxX:List LU->Bool->List Sc->Prop
 | _,_,[]=>True
 | acc,first,x::r=>(x.no=[]\/(numberL x.no=true/\x.no.length<1000000/\x.no ∉ acc))/\(1<=x.place/\x.place<=3)/\(1<=x.time/\x.time<=5)/\(first=true->x.time≠5)/\SceneOk x/\AxX (dd acc x.no) false r
def paraSum(l:List Sc):Nat:=(l.map fun x=>x.Ld.length).sum
structure ScriptOk(x:Sr):Prop where
 Lk:1<=x.Lk.length/\x.Lk.length<=60
 plain:plainL x.Lk=true
 len:x.Lc.length<=300
 many:paraSum x.Lc<=4000
 ok:AxX [] true x.Lc
theorem AhC(l:List Sc)(i:Nat)(h:i<l.length):paraSum (l.take (i+1))=paraSum (l.take i)+l[i].Ld.length:=by
 grind[paraSum,List.take_add_one]
theorem AeF(l:List Sc)(i:Nat):paraSum (l.take i)<=paraSum l:=by
 grind[paraSum,lbs]
theorem AgC(n:Nat)(ks:List LU):lowB n (.mp (seenM ks))=true:=by
 show(seenM ks).all _=true
 rw[lbk];intro x hx;simp only[seenM,List.mem_map]at hx;obtain⟨y,_,rfl⟩:=hx;rfl
theorem BeX{k:LU}{ks:List LU}:(∃ i v,mfind .string (.str k) (seenM ks) 0=some (some (i,v))/\(seenM ks).set i (.str k,.bool true)=seenM (dd ks k)) \/
  (mfind .string (.str k) (seenM ks) 0=some none/\seenM ks++[(.str k,.bool true)]=seenM (dd ks k)):=by
 by_cases h:k∈ks
 .left
  obtain⟨i,h1,h2⟩:=A6K h;refine⟨0+i,_,h1,?_⟩;have:(seenM ks)[i]? = some (.str k,.bool true):=by grind[seenM]
  have hs:(seenM ks).set i (.str k,.bool true)=seenM ks:=by
   apply lbz
   grind
  grind[dd]
 grind[mfind_out,dd,seenM]
theorem BeY{S:Std}(hS:LibOk S)(x:Sr)(hx:ScriptOk x):PcH prog S 94 [srA x] (· = .int .i64 0):=by
 obtain⟨ti,xs⟩:=x;have t1:=hx.Lk;have t2:=hx.plain;have t3:=hx.len;have t4:=hx.many;have t5:=hx.ok;simp only at t1 t2 t3 t4 t5;have d1:decide ((ti.length:Int)<1)=false:=by simp; omega
 have d2:decide ((ti.length:Int)>60)=false:=by simp; omega
 simp only[srA];refine zqIN func94 rfl fun h ρ w hg=>?_
 simp only[go_sem,d1,d2];refine zqN hg (AeC hS ti (by omega)) ?_;rw[t2];simp only[go_sem];refine AaE (ι:=Nat) (fun i=>xs.length-i)
  (fun i=>[(29,.int .i64 i),(28,.int .i64 xs.length),(27,.fz 5 (xs.map scA)),(3,.int .i64 (paraSum (xs.take i))),(1,.ptr 0 1 0 0)])
  (fun _=>[.arr 2 [.agg [.str ti,.fz 5 (xs.map scA)]]]) (fun i=>i<=xs.length) 0 (by simp) ?_ ?_
 .refine Lr ?_
  simp only[go_sem,laa]
  simp[paraSum]
 .intro i g1 J hJ
  by_cases gi:i<xs.length
  .have di:decide ((i:Int)<(xs.length:Int))=true:=by simp; omega
   have hg':List.getD (List.map scA xs) i .any=.agg [.str xs[i].no,.int .i64 xs[i].place,.str xs[i].set,.int .i64 xs[i].time,.fz 2 (xs[i].Ld.map paA)]:=by simp[List.getD,gi,scA]
   have hs:=AhC xs i gi;have hle:=AeF xs (i+1);apply zgN;simp only[go_sem,di,hg',laa]
   repeat refine And.intro (by first|omega|simpa using gi) ?_
   rw[show(paraSum (xs.take i):Int)+(xs[i].Ld.length:Int)=(paraSum (xs.take (i+1)):Int) by omega,show(i:Int)+1=((i+1:Nat):Int) by omega];refine ainv (hJ (i+1) (by omega) (by omega)) (Shift.low 1 (by simp) (by simp) ?_ ?_)
   .simp only[go_sem,lowB,flat]
   .simp only [go_sem]
  .have di:decide ((i:Int)<(xs.length:Int))=false:=by simp; omega
   have:i=xs.length:=by omega
   subst this;rw[laz];have d3:decide ((xs.length:Int)>300)=false:=by simp; omega
   have d4:decide ((paraSum xs:Int)>4000)=false:=by simp; omega
   apply zgN;simp only[go_sem,di,d3,d4,laa];refine AaE (ι:=Nat×List LU) (fun y=>xs.length-y.1)
    (fun y=>[(51,.int .i64 y.1),(50,.int .i64 xs.length),(49,.fz 5 (xs.map scA)),(6,.mp 1),(1,.ptr 0 1 0 0)])
    (fun y=>[.arr 2 [.agg [.str ti,.fz 5 (xs.map scA)]],.mp (seenM y.2)]) (fun y=>y.1<=xs.length/\AxX y.2 (decide (y.1=0)) (xs.drop y.1)) (0,[]) ⟨by simp,t5⟩ ?_ ?_
   .refine Lr ?_
    simp only[go_sem]
   .clear hJ J
    rintro⟨i,acc⟩ ⟨g1,g2⟩ J hJ;simp only at g1 g2 hJ |-
    by_cases gi:i<xs.length
    .have di:decide ((i:Int)<(xs.length:Int))=true:=by simp; omega
     have hg':List.getD (List.map scA xs) i .any=.agg [.str xs[i].no,.int .i64 xs[i].place,.str xs[i].set,.int .i64 xs[i].time,.fz 2 (xs[i].Ld.map paA)]:=by simp[List.getD,gi,scA]
     have hd:xs.drop i=xs[i]::xs.drop (i+1):=lbc gi;rw[hd]at g2;obtain⟨c1,c2,c3,c4,c5,c6⟩:=g2;have e1:decide (xs[i].place<1)=false:=by simp; omega
     have e2:decide (xs[i].place>3)=false:=by simp; omega
     have e3:decide (xs[i].time<1)=false:=by simp; omega
     have e4:decide (xs[i].time>5)=false:=by simp; omega
     have e5:((i:Int)==0)=false\/((i:Int)==0)=true/\(xs[i].time==5)=false:=by
      by_cases h0:i=0
      .exact .inr ⟨by simp[h0],by simpa using c4 (by simp[h0])⟩
      .exact .inl (by simp; omega)
     have hsf:=AqW hS xs[i] c5;simp only[scA]at hsf;have nx:decide (i+1=0)=false:=by simp
     generalize hsc:xs[i]=sc at *;have fin:_:=fun h=>hJ (i+1,dd acc sc.no) ⟨by simp only; omega,by simp only; rw[nx]; exact c6⟩ h
     rcases c1 with h0|⟨n1,n2,n3⟩
     .have q0:(sc.no != [])=false:=by simp[h0]
      rcases e5 with e5|⟨e5,e6⟩
      .rcases @BeX sc.no acc with⟨j,v,m1,m2⟩|⟨m1,m2⟩
       .apply zgN
        simp only[go_sem,di,hg',q0,e1,e2,e3,e4,e5,m1,m2]
        repeat refine And.intro (by first|omega|simpa using gi) ?_
        refine zqN hg (hsf) ?_;simp only[go_sem];refine⟨by omega,by omega,?_⟩;rw[ic i];refine ainv (fin (by simp only; omega)) (Shift.low 2 (by simp) (by simp) ?_ ?_)
        .simp only[go_sem,lowB,flat,↓AgC]
        .simp only [go_sem]
       .apply zgN
        simp only[go_sem,di,hg',q0,e1,e2,e3,e4,e5,m1,m2]
        repeat refine And.intro (by first|omega|simpa using gi) ?_
        refine zqN hg (hsf) ?_;simp only[go_sem];refine⟨by omega,by omega,?_⟩;rw[ic i];refine ainv (fin (by simp only; omega)) (Shift.low 2 (by simp) (by simp) ?_ ?_)
        .simp only[go_sem,lowB,flat,↓AgC]
        .simp only [go_sem]
      .rcases @BeX sc.no acc with⟨j,v,m1,m2⟩|⟨m1,m2⟩
       .apply zgN
        simp only[go_sem,di,hg',q0,e1,e2,e3,e4,e5,e6,m1,m2]
        repeat refine And.intro (by first|omega|simpa using gi) ?_
        refine zqN hg (hsf) ?_;simp only[go_sem];refine⟨by omega,by omega,?_⟩;rw[ic i];refine ainv (fin (by simp only; omega)) (Shift.low 2 (by simp) (by simp) ?_ ?_)
        .simp only[go_sem,lowB,flat,↓AgC]
        .simp only [go_sem]
       .apply zgN
        simp only[go_sem,di,hg',q0,e1,e2,e3,e4,e5,e6,m1,m2]
        repeat refine And.intro (by first|omega|simpa using gi) ?_
        refine zqN hg (hsf) ?_;simp only[go_sem];refine⟨by omega,by omega,?_⟩;rw[ic i];refine ainv (fin (by simp only; omega)) (Shift.low 2 (by simp) (by simp) ?_ ?_)
        .simp only[go_sem,lowB,flat,↓AgC]
        .simp only [go_sem]
     .by_cases h0:sc.no=[]
      .rw [h0]at n1
       exact absurd n1 (by decide)
      have q0:(sc.no != [])=true:=by simp[h0]
      have m1:=@mfind_out sc.no acc 0 n3;have m2:seenM acc++[(.str sc.no,.bool true)]=seenM (dd acc sc.no):=by simp[dd,n3,seenM]
      rcases e5 with e5|⟨e5,e6⟩
      .apply zgN
       simp only[go_sem,di,hg',q0,e1,e2,e3,e4,e5,m1,m2]
       repeat refine And.intro (by first|omega|simpa using gi) ?_
       refine zpN (AlZ sc.no n2) ?_;rw[n1];simp only[go_sem,di,hg',q0,e1,e2,e3,e4,e5,m1,m2]
       repeat refine And.intro (by first|omega|simpa using gi) ?_
       refine zqN hg (hsf) ?_;simp only[go_sem];refine⟨by omega,by omega,?_⟩;rw[ic i];refine ainv (fin (by simp only; omega)) (Shift.low 2 (by simp) (by simp) ?_ ?_)
       .simp only[go_sem,lowB,flat,↓AgC]
       .simp only [go_sem]
      .apply zgN
       simp only[go_sem,di,hg',q0,e1,e2,e3,e4,e5,e6,m1,m2]
       repeat refine And.intro (by first|omega|simpa using gi) ?_
       refine zpN (AlZ sc.no n2) ?_;rw[n1];simp only[go_sem,di,hg',q0,e1,e2,e3,e4,e5,e6,m1,m2]
       repeat refine And.intro (by first|omega|simpa using gi) ?_
       refine zqN hg (hsf) ?_;simp only[go_sem];refine⟨by omega,by omega,?_⟩;rw[ic i];refine ainv (fin (by simp only; omega)) (Shift.low 2 (by simp) (by simp) ?_ ?_)
       .simp only[go_sem,lowB,flat,↓AgC]
       .simp only [go_sem]
    .have di:decide ((i:Int)<(xs.length:Int))=false:=by simp; omega
     apply zgN;simp only[go_sem,di];exact zt [2]
end Go.Proofs.YtgenkcmfeeakoaaGreatDoor
namespace Go.Proofs
open Shelf Proofs.Tryz
def Tryz.lays156_ren:Go.Shelf.Ren:=⟨fun|156=>121|165=>173|166=>174|169=>176|240=>223|241=>224|276=>249|277=>250|n=>n,fun|31=>34|9=>9|3=>3|4=>4|0=>0|20=>20|72=>229|76=>120|70=>227|37=>180|75=>119|127=>272|164=>293|5=>5|80=>231|n=>n,fun|n=>n⟩
theorem Tryz.lays156:Go.Proofs.Lays.n156 prog Tryz.lays156_ren:=by constructor <;> intros <;> kernel_rfl
def Tryz.lays157_ren:Go.Shelf.Ren:=⟨fun|157=>122|229=>179|199=>180|261=>228|311=>252|312=>253|n=>n,fun|9=>9|31=>34|3=>3|5=>5|4=>4|119=>232|0=>0|40=>234|152=>273|21=>21|154=>275|51=>246|141=>277|196=>299|193=>296|198=>301|49=>257|194=>297|201=>304|226=>313|46=>198|227=>314|n=>n,fun|0=>0|6=>4|n=>n⟩
theorem Tryz.lays157:Go.Proofs.Lays.n157 prog Tryz.lays157_ren:=by constructor <;> intros <;> kernel_rfl
