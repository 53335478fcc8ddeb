/- Numbers of scenes: the next one, the one between two others. -/
import Derived.Test.YtccfklnmolggiaaGreatDoorZ16
import Derived.Lib.AppendIntMem
import Derived.Shelf.Strings.OnBuilder
import Derived.Shelf.Strings.Fields
set_option maxRecDepth 100000
set_option maxHeartbeats 4000000
set_option linter.all false
namespace Go.Proofs.YtccfklnmolggiaaGreatDoor
open Av RowKit Proofs.Tryz
theorem AjR{S:Std}(hS:LibOk S)(n:Int)(h0:-9223372036854775808<=n)(h1:n<=9223372036854775807):PcH prog S 21 [.int .i64 n] (· = .str (Lib.itoa n)) :=
 ApS [_] (.string ⟨(Lib.itoa n).toArray⟩) hB21 (BgS .i64 n) (fun h=>.str _) fun w H=>by
  obtain⟨t,z,hp⟩:=hS.pow10;refine(Any.strconv_Itoa Tryz.laysM171 n h0 h1 w ?_).mono fun e w' ⟨e1,k,os,e2⟩=>⟨e1,e2▸AfX (Lib.below_grow _ _ (lab _) _ _)⟩
  show w.var? _ _=_
  have hg:prog.globalNamed "internal/strconv.uint64pow10" = some 0:=by kernel_rfl
  simp only[World.var?,hg,Option.bind_some,H _ _ hp]
def dig3(d:Int):LU :=
 if d.toNat<10 then[UInt8.ofNat (48+d.toNat)] else if d.toNat<100 then[UInt8.ofNat (48+d.toNat / 10),UInt8.ofNat (48+d.toNat%10)]
 else[UInt8.ofNat (48+d.toNat / 100),UInt8.ofNat (48+d.toNat / 10%10),UInt8.ofNat (48+d.toNat%10)]
theorem AsL{d:Int}(h0:0<=d)(h1:d<=999):Lib.itoa d=dig3 d:=by
 grind[Lib.itoa,dig3,Lib.decDigits]
theorem AnO:∀ (l:LU)(acc n:Nat),Lib.decFrom acc l=some n->n<(acc+1)*10 ^ l.length
 | [],acc,n,h=>by grind[Lib.decFrom]
 | c::l,acc,n,h=>by
  unfold Lib.decFrom at h
  split at h
  .rename_i d hd
   have ih:=AnO l _ _ h;have:d<=9:=by
    grind[Lib.digitVal]
   refine lcd ih ?_;rw[laf,Nat.pow_succ,Nat.mul_comm (10 ^ l.length) 10,<- Nat.mul_assoc];exact lbl _ (by omega)
  grind
theorem BbP{a:LU}(h:okD a):0<=pN a/\pN a<((10 ^ (digs a).length:Nat):Int):=by
 obtain⟨n,hn⟩:=AdT (digs a) 0 (AeQ a);have hlt:=AnO _ _ _ hn;have hat:=A5I h;have h1:=h.1;have ha:=AeQ a;have key:pN a=(n):=by
  cases hq:digs a with
  | nil=>grind
  | cons b r =>
   rw[hq]at hn ha hat;simp only[laz,lac,digB,digI,lao]at ha;have b1:(b==45)=false:=by
    cases hb:b==45<;>simp_all
   have b2:(b==43)=false:=by
    cases hb:b==43<;>simp_all
   grind[Lib.atoi,Lib.decNat]
 omega
theorem AfY{a:LU}(h:numberL a=true):okD a/\(digs a).length<=3/\(caps a).length<=5/\(caps a).all capB=true:=by
 grind[numberL,okD]
theorem AeF(s:LU):s=digs s++caps s:=by simp[digs,caps]
theorem A1G{a:LU}(h:numberL a=true):okD a/\a.length<1000/\(caps a).all capB=true/\0<=pN a/\pN a<1000000:=by
 obtain⟨h1,h2,h3,h4⟩:=AfY h;have hl:=congrArg List.length (AeF a);have hp:=BbP h1;have:10 ^ (digs a).length<=10 ^ 3:=Nat.pow_le_pow_right (by omega) h2
 grind
theorem clone0_pc:Pc prog 23 [.fz 5 []] (· = .fz 5 []):=by
 refine zpIN func23 rfl fun h ρ w=>?_
 simp only[go_sem];intro b;apply zgN
 cases b with
 | true =>
  simp only[go_sem];exact ARet.shift (Shift.nilfz 2 5 rfl) (aret [2] rfl ⟨rfl,rfl⟩)
 | false =>
  simp only[go_sem];refine⟨.inl trivial,?_⟩;exact ARet.shift (Shift.freeze 2 (id:=0) rfl rfl rfl (lab _) rfl) (aret [2] rfl ⟨rfl,rfl⟩)
theorem AyT(x:Sc)(xs:List Sc)(hl:xs.length<=100000) :
  Ct prog 23 [.fz 5 ((x::xs).map scA)] [] (fun r s=>r=.sl 0 0 (x::xs).length (x::xs).length/\s=[.arr 5 ((x::xs).map scA)]):=by
 refine zcIN func23 rfl fun h ρ w=>?_
 simp only[go_sem,scA];refine⟨by simp,by simp; omega,by simp; omega,aret [2] rfl ⟨by simp[resV,Av.get,scA],rfl⟩⟩
def nm(i:Nat)(x:Sc):Sc:={ x with no:=Lib.itoa ((i:Int)+1) }
def numL:Nat->List Sc->List Sc
 | _,[]=>[]
 | i,x::r=>nm i x::numL (i+1) r
def numR(x:Sr):Sr:=⟨x.Lj,numL 0 x.Lb⟩
theorem AsM{S:Std}(hS:LibOk S)(x:Sr)(hl:x.Lb.length<=1000):PcH prog S 43 [srA x] (· = srA (numR x)):=by
 obtain⟨ti,xs⟩:=x
 cases xs with
 | nil =>
  simp only[srA,laq,numR,numL];refine zqIN func43 rfl fun h ρ w hg=>?_
  simp only[go_sem];refine AyI [] 99 [.fz 5 []] AaJ (by decide) rfl rfl 100 ?_;simp only[go_sem];refine⟨clone0_pc.at,rfl,?_⟩;apply zgN;simp only[go_sem];refine AbD (around (zgN ?_));simp only[go_sem];exact AbU [.cell 2 28] rfl [_] ⟨by simp only[go_sem,sideIs],trivial⟩ ⟨rfl,rfl⟩
 | cons x xs =>
  simp only[srA];refine zqIN func43 rfl fun h ρ w hg=>?_
  simp only[go_sem];refine AWp.shift (Lr 5) ?_;refine AyI [4] 2 [] AaJ (by decide) rfl rfl 100 ?_;simp only[go_sem];have hfro:(flat ((x::xs).map scA)).all Av.frozen=true:=AaT (x::xs);refine AsI (AyT x xs (by simp at hl |-; omega)) (by simp) (by simp) rfl hfro rfl ?_;simp only[go_sem];apply zgN;simp only[go_sem];refine⟨by simp,?_⟩;have hys:AV.fz 5 (List.map scA (numR ⟨ti,x::xs⟩).Lb)=.fz 5 (List.map scA (numL 0 (x::xs))):=rfl;rw[hys];clear hys;have hl':xs.length+1<=1000:=by simpa using hl
  have hnum:∃ out,numL 0 (x::xs)=out:=⟨_,rfl⟩;obtain⟨out,hout⟩:=hnum;rw[hout];refine AaI (ι:=List Sc×List Sc) (fun y=>y.2.length)
   (fun y=>[(14,.int .i64 y.1.length),(13,.int .i64 ↑(xs.length+1)),(3,.ptr 3 1 0 0),(2,.ptr 1 1 0 0)])
   (fun y=>[.arr 2 [.agg [.str ti,.fz 5 (scA x::List.map scA xs)]],.arr 2 [.agg [.str [],.raw (.slice none 0 0)]],.arr 5 (List.map scA (y.1++y.2)),.arr 2 [.agg [.str ti,.sl 2 0 (xs.length+1) (xs.length+1)]]])
   (fun y=>y.1.length+y.2.length=xs.length+1/\y.1++numL y.1.length y.2=out) ([],x::xs) ⟨by simp,hout⟩ ?_ ?_
  .refine Lo ?_
   simp only[go_sem]
  .rintro ⟨dn,rest⟩ ⟨g1,g2⟩ J hJ
   simp only at g1 g2 hJ |-
   cases rest with
   | cons y r =>
    have di:decide ((dn.length:Int)<((xs.length+1:Nat):Int))=true:=by simp at g1 |-; omega
    apply zgN;simp only[go_sem,di];refine zr [.str (Lib.itoa ((dn.length:Int)+1))] AaJ ?_;have hx:List.getD (List.map scA (dn++y::r)) dn.length .any=.agg [.str y.no,.int .i64 y.place,.str y.set,.int .i64 y.time,.fz 2 (y.Lc.map paA)]:=by simp[List.getD,scA]
    simp only[go_sem,hx];refine⟨by omega,by omega,(AjR hS _ (by omega) (by omega)).at hg,rfl,by simp at g1 |-; omega,by omega,by simp at g1 |-; omega,by omega,by simp,?_⟩;have hset:(List.map scA (dn++y::r)).set dn.length (.agg [.str (Lib.itoa ((dn.length:Int)+1)),.int .i64 y.place,.str y.set,.int .i64 y.time,.fz 2 (y.Lc.map paA)])=List.map scA ((dn++[nm dn.length y])++r):=by
     simp[nm,scA]
    rw[hset];apply zgN;simp only[go_sem];refine⟨by omega,by omega,?_⟩;rw[show(dn.length:Int)+1=((dn++[nm dn.length y]).length:Int) by simp];refine ainv (hJ (dn++[nm dn.length y],r) ⟨by simp at g1 |-; omega,by rw[<- g2]; simp[numL]⟩ (by simp)) (Lo ?_);simp only[go_sem]
   | nil =>
    have di:decide (((xs.length+1:Nat):Int)<((xs.length+1:Nat):Int))=false:=by simp
    simp only[lbg,numL]at g2 |-;subst g2;have hn:dn.length=xs.length+1:=by simpa using g1
    refine AWp.shift (Shift.frz 2 rfl (AaT dn)) ?_;simp only[go_sem,frzE,frz,frz1,frzC,frzB,laa,hn,lab];have:List.take (xs.length+1) (List.map scA dn)=List.map scA dn:=lag (by simp; omega);simp only[this];apply zgN;simp only[go_sem,di];exact AbU [.cell 2 28] rfl [_] ⟨by simp only[go_sem,sideIs,numR],trivial⟩ ⟨rfl,rfl⟩
def DIG:LU:=[48,49,50,51,52,53,54,55,56,57]
def CAPS:LU:=[65,66,67,68,69,70,71,72,73,74,75,76,77,78,79,80,81,82,83,84,85,86,87,88,89,90]
theorem A5J{S:Std}(hS:LibOk S):PcH prog S 77 [.str []] (· = .tup [.int .i64 0,.any]):=by
 refine⟨hB77,fun h w vs' hg hm hv=>?_⟩;have:=AvZ [] h vs' hv;subst this;obtain⟨te,pe,t,z,hs⟩:=hS.syn;have hcell:w.cell? ⟨Tryz.laysC172_ren.g 15,0,none⟩=some (.iface te pe):=(Lib.cell_of_heap (hg _ _ hs) 0).trans rfl;refine(Any.strconv_Atoi_err Tryz.laysC172 ⟨#[]⟩ (by decide) rfl (.iface te pe) w hcell (.inr ⟨te,pe,rfl⟩)).mono ?_;rintro e w' ⟨N,rfl,_,_,hb⟩;have hs:Same w w':=AfX hb;exact⟨_,_,h,rfl,rfl,fun b o v e=>⟨hs.cell (hm b o v e).1,(hm b o v e).2⟩,fun _ _ _ x=>x,fun b o e n=>(n e).elim,hs,.tup [_,_] [_,_] (.cons (.int _ _) (.cons (.any _) .nil))⟩
theorem AhE(s:LU)(hs:s.length<1000000)(h0:Lib.trimLeftS s DIG=[]):Pc prog 76 [.str s] (· = .tup [.str s,.str []]):=by
 refine zpIN func76 rfl fun h ρ w=>?_
 simp only[go_sem];refine zpN (AvS s DIG (by decide) (AlB (by decide))) ?_;rw[h0];have:List.take s.length s=s:=lbt;simp only[go_sem,this];refine⟨by omega,by omega,by omega,by omega,?_⟩;refine aret [2,3] rfl ⟨?_,rfl⟩
 simp[resV,Av.get]
theorem BgU(s:LU)(a b:Int)(h1:a<=s.length)(h2:s.length<=b):Pc prog 124 [.str s,.int .i64 a,.int .i64 b] (· = .bool true):=by
 have d1:decide ((s.length:Int)>=a)=true:=by simpa using h1
 have d2:decide ((s.length:Int)<=b)=true:=by simpa using h2
 refine zpIN func124 rfl fun h ρ w=>?_
 simp only[go_sem,d1,d2];exact zt [6]
theorem BbQ:Pc prog 125 [.str [],.str CAPS] (· = .bool true):=by
 refine zpIN func125 rfl fun h ρ w=>?_
 simp only[go_sem];refine zpN (BgK [] CAPS (by decide) (by decide) (AlB (by decide))) ?_;rw[show Lib.trimS [] CAPS=[] from rfl];simp only[go_sem];exact zt [4]
theorem AwB(s:LU)(h0:Lib.trimLeftS s DIG=[])(h1:1<=s.length)(h2:s.length<=3)(h3:s.getD 0 0≠48):Pc prog 79 [.str s] (· = .bool true):=by
 have d3:(((s.getD 0 0).toNat:Int) != 48)=true:=by
  simp only[bne_iff_ne,ne_eq];intro e;exact h3 (UInt8.toNat_inj.1 (by simpa using(show(s.getD 0 0).toNat=48 by omega)))
 refine zpIN func79 rfl fun h ρ w=>?_
 simp only[go_sem];refine zpN (AhE s (by omega) h0) ?_;simp only[go_sem];refine zpN (BgU s 1 3 (by omega) (by omega)) ?_;simp only[go_sem];refine zpN (BbQ) ?_;simp only[go_sem];refine zpN (AdR [] [65] (by simp)) ?_;rw[show Lib.hasSuffix [] [65]=false from rfl];simp only[go_sem,d3];refine⟨by omega,?_⟩;exact zt [2]
theorem A5K(s:LU)(m:Int)(h0:Lib.trimLeftS s DIG=[])(h1:s.length<=18)(h2:Lib.atoi s=some m):Pc prog 80 [.str s,.str [57]] (· = .int .i64 (orI (cmpI m 9) 0)):=by
 refine zpIF func80 rfl fun h ρ w=>?_
 simp only[go_sem];refine zpF (AhE s (by omega) h0) ?_;simp only[go_sem];refine zpF (AhE [57] (by simp) rfl) ?_;simp only[go_sem];refine zpF (AwA s m h1 h2) ?_;simp only[go_sem];refine zpF (AwA [57] 9 (by simp) rfl) ?_;simp only[go_sem];refine zpF (A1F m 9) ?_;simp only[go_sem];refine zpF (AmX [] []) ?_;rw[show Lib.compareBytes [] []=0 from rfl];simp only[go_sem];refine zpF (or_pc (cmpI m 9) 0) ?_;simp only[go_sem];exact zt [4]
def AdO(n:Nat):LU:=if n=0 then[] else dig3 n
theorem AiH(j:Nat)(hj:j<5):Lib.trimLeftS (AdO j) DIG=[]/\(AdO j).length<=3/\(j≠0->Lib.atoi (AdO j)=some (j:Int)) /\
  Lib.trimLeftS (dig3 ((j:Int)+1)) DIG=[]/\(dig3 ((j:Int)+1)).length=1/\(dig3 ((j:Int)+1)).getD 0 0≠48/\Lib.atoi (dig3 ((j:Int)+1))=some ((j:Int)+1)/\(dig3 ((j:Int)+1)==[])=false/\AdO (j+1)=dig3 ((j:Int)+1):=by
 have:j=0\/j=1\/j=2\/j=3\/j=4:=by omega
 rcases this with rfl|rfl|rfl|rfl|rfl <;> exact⟨by decide,by decide,by decide,by decide,by decide,by decide,by decide,by decide,by decide⟩
theorem ApY{S:Std}(hS:LibOk S)(j:Nat)(hj:j<5)(b:LU)(hb:b=[]\/b=[57]):PcH prog S 44 [.str (AdO j),.str b] (· = .tup [.str (AdO (j+1)),.bool true]):=by
 obtain⟨f1,f2,f3,f4,f5,f6,f7,f8,f9⟩:=AiH j hj;rw[f9];have hit:=AjR hS ((j:Int)+1) (by omega) (by omega);rw[AsL (by omega) (by omega)]at hit;have ho:=A5K (dig3 ((j:Int)+1)) ((j:Int)+1) f4 (by omega) f7;have hc:orI (cmpI ((j:Int)+1) 9) 0=-1:=by
  have:cmpI ((j:Int)+1) 9=-1:=by unfold cmpI; rw[if_pos (by omega)]
  rw[this]; rfl
 rw[hc]at ho;have hn:=AwB (dig3 ((j:Int)+1)) f4 (by omega) (by omega) f6;generalize dig3 ((j:Int)+1)=x at *;refine zqIN func44 rfl fun h ρ w hg=>?_
 simp only[go_sem];refine zpN (AhE (AdO j) (by omega) f1) ?_;simp only[go_sem]
 by_cases h0:j=0
 .subst h0
  refine zqN hg (A5J hS) ?_;simp only[go_sem];refine AbD (around (zgN ?_));simp only[go_sem];refine zqN hg (hit) ?_;simp only[go_sem];refine⟨.inl trivial,?_⟩;refine AbD (around (zgN ?_));simp only[go_sem];refine zpN (hn) ?_;simp only[go_sem]
  rcases hb with rfl|rfl
  .simp only [go_sem]
   exact zt [4,5]
  .simp only [go_sem]
   refine zpN (ho) ?_;simp only[go_sem];exact zt [4,5]
 .refine zpN (AwA (AdO j) j (by omega) (f3 h0)) ?_
  simp only[go_sem];refine AbD (around (zgN ?_));simp only[go_sem];refine⟨by omega,by omega,?_⟩;refine zqN hg (hit) ?_;simp only[go_sem];refine⟨.inl trivial,?_⟩;refine AbD (around (zgN ?_));simp only[go_sem];refine zpN (hn) ?_;simp only[go_sem]
  rcases hb with rfl|rfl
  .simp only [go_sem]
   exact zt [4,5]
  .simp only [go_sem]
   refine zpN (ho) ?_;simp only[go_sem];exact zt [4,5]
structure SceneOk(x:Sc):Prop where
 set:isSetL x.set=true
 len:x.set.length<1000000
 many:x.Lc.length<1000000
 run:∃ e,runL 0 x.Lc=some e/\e≠2/\e≠3
theorem AmY{S:Std}(hS:LibOk S)(x:Sc)(hx:SceneOk x):PcH prog S 49 [scA x] (· = .int .i64 0):=by
 obtain⟨e,hr,h2,h3⟩:=hx.run;have h4:=hx.many;simp only[scA];refine zqIN func49 rfl fun h ρ w hg=>?_
 simp only[go_sem];refine zqN hg (AlA hS x.set hx.len) ?_;rw[hx.set];simp only[go_sem];refine AaI (ι:=Nat×Int) (fun y=>x.Lc.length-y.1)
  (fun y=>[(14,.int .i64 y.1),(13,.int .i64 x.Lc.length),(12,.fz 2 (x.Lc.map paA)),(3,.int .i64 y.2)])
  (fun _=>[.arr 5 [.agg [.str x.no,.int .i64 x.place,.str x.set,.int .i64 x.time,.fz 2 (x.Lc.map paA)]]])
  (fun y=>y.1<=x.Lc.length/\runL y.2 (x.Lc.drop y.1)=some e) (0,0) ⟨by simp,hr⟩ ?_ ?_
 .refine Lo ?_
  simp only[go_sem,laa]
 .rintro ⟨i,l⟩ ⟨g1,g2⟩ J hJ
  simp only at g1 g2 hJ |-
  by_cases gi:i<x.Lc.length
  .have di:decide ((i:Int)<(x.Lc.length:Int))=true:=by simp; omega
   have hd:x.Lc.drop i=x.Lc[i]::x.Lc.drop (i+1):=lbc gi;rw[hd]at g2;simp only[runL]at g2
   split at g2
   rotate_left
   .cases g2
   rename_i hp;simp only[lac]at hp;have hg':List.getD (List.map paA x.Lc) i .any=.agg [.int .i64 x.Lc[i].kind,.str x.Lc[i].text]:=by simp[List.getD,gi,paA]
   have hpf:=ApT hS x.Lc[i] hp.1;simp only[paA]at hpf;apply zgN;simp only[go_sem,di,hg'];refine⟨by omega,by simpa using gi,by simpa using gi,?_⟩;refine zqN hg (hpf) ?_;simp only[go_sem];refine zpN (A1C x.Lc[i].kind l) ?_;rw[hp.2];simp only[go_sem];refine⟨by omega,by omega,?_⟩;rw[ic i];refine ainv (hJ (i+1,x.Lc[i].kind) ⟨by simp only; omega,g2⟩ (by simp only; omega)) (Shift.low 1 (by simp) (by simp) ?_ ?_)
   .simp only[go_sem,lowB,flat]
   .simp only [go_sem]
  .have di:decide ((i:Int)<(x.Lc.length:Int))=false:=by simp; omega
   have:i=x.Lc.length:=by omega
   subst this;rw[List.drop_length]at g2;simp only[runL,lam]at g2;subst g2;have q2:(l==2)=false:=by simpa using h2
   have q3:(l==3)=false:=by simpa using h3
   apply zgN;simp only[go_sem,di,q2,q3];exact zt [2]
def seenM(ks:List LU):List (AV×AV):=ks.map fun k=>(.str k,.bool true)
theorem mfind_out{k:LU}:∀ {ks:List LU}{n:Nat},k ∉ ks->mfind .string (.str k) (seenM ks) n=some none
 | [],n,_=>rfl
 | a::r,n,h=>by
  simp at h
  have:(k==a)=false:=by simpa using h.1
  simp only[seenM,lah,mfind,keyEq,this];exact mfind_out h.2
theorem AyU{k:LU}:∀ {ks:List LU}{n:Nat},k∈ks->∃ i,mfind .string (.str k) (seenM ks) n=some (some (n+i,.bool true))/\ks[i]? = some k
 | [],n,h=>by grind
 | a::r,n,h=>by
  by_cases e:k=a
  .subst e
   exact⟨0,by grind[seenM,mfind,keyEq],rfl⟩
  .obtain ⟨i,h1,h2⟩:=AyU (n:=n+1) ((List.mem_cons.1 h).resolve_left e)
   refine⟨i+1,?_,by simpa using h2⟩<;>grind[seenM,mfind,keyEq]
def dd(acc:List LU)(k:LU):List LU:=if k∈acc then acc else acc++[k]
def AlH:List LU->Bool->List Sc->Prop
 | _,_,[]=>True
 | acc,first,x::r=>(x.no=[]\/(numberL x.no=true/\x.no.length<1000000/\x.no ∉ acc))/\(1<=x.place/\x.place<=3)/\(1<=x.time/\x.time<=5)/\(first=true->x.time≠5)/\SceneOk x/\AlH (dd acc x.no) false r
def paraSum(l:List Sc):Nat:=(l.map fun x=>x.Lc.length).sum
structure ScriptOk(x:Sr):Prop where
 Lj:1<=x.Lj.length/\x.Lj.length<=60
 plain:plainL x.Lj=true
 len:x.Lb.length<=300
 many:paraSum x.Lb<=4000
 ok:AlH [] true x.Lb
theorem AsN(l:List Sc)(i:Nat)(h:i<l.length):paraSum (l.take (i+1))=paraSum (l.take i)+l[i].Lc.length:=by
 grind[paraSum,List.take_add_one]
theorem AlI(l:List Sc)(i:Nat):paraSum (l.take i)<=paraSum l:=by
 grind[paraSum,List.take_append_drop]
theorem AfZ(n:Nat)(ks:List LU):lowB n (.mp (seenM ks))=true:=by
 show(seenM ks).all _=true
 rw[lbv];intro x hx;simp only[seenM,List.mem_map]at hx;obtain⟨y,_,rfl⟩:=hx;rfl
theorem A5L{k:LU}{ks:List LU}:(∃ i v,mfind .string (.str k) (seenM ks) 0=some (some (i,v))/\(seenM ks).set i (.str k,.bool true)=seenM (dd ks k)) \/
  (mfind .string (.str k) (seenM ks) 0=some none/\seenM ks++[(.str k,.bool true)]=seenM (dd ks k)):=by
 by_cases h:k∈ks
 .left
  obtain⟨i,h1,h2⟩:=AyU h;refine⟨0+i,_,h1,?_⟩;have:(seenM ks)[i]? = some (.str k,.bool true):=by grind[seenM]
  have hs:(seenM ks).set i (.str k,.bool true)=seenM ks:=by
   apply List.ext_getElem?
   grind
  grind[dd]
 grind[mfind_out,dd,seenM]
theorem AeG{S:Std}(hS:LibOk S)(x:Sr)(hx:ScriptOk x):PcH prog S 19 [srA x] (· = .int .i64 0):=by
 obtain⟨ti,xs⟩:=x;have t1:=hx.Lj;have t2:=hx.plain;have t3:=hx.len;have t4:=hx.many;have t5:=hx.ok;simp only at t1 t2 t3 t4 t5;have d1:decide ((ti.length:Int)<1)=false:=by simp; omega
 have d2:decide ((ti.length:Int)>60)=false:=by simp; omega
 simp only[srA];refine zqIN func19 rfl fun h ρ w hg=>?_
 simp only[go_sem,d1,d2];refine zqN hg (AcF hS ti (by omega)) ?_;rw[t2];simp only[go_sem];refine AaI (ι:=Nat) (fun i=>xs.length-i)
  (fun i=>[(29,.int .i64 i),(28,.int .i64 xs.length),(27,.fz 5 (xs.map scA)),(3,.int .i64 (paraSum (xs.take i))),(1,.ptr 0 1 0 0)])
  (fun _=>[.arr 2 [.agg [.str ti,.fz 5 (xs.map scA)]]]) (fun i=>i<=xs.length) 0 (by simp) ?_ ?_
 .refine Lo ?_
  simp only[go_sem,laa]
  simp[paraSum]
 .intro i g1 J hJ
  by_cases gi:i<xs.length
  .have di:decide ((i:Int)<(xs.length:Int))=true:=by simp; omega
   have hg':List.getD (List.map scA xs) i .any=.agg [.str xs[i].no,.int .i64 xs[i].place,.str xs[i].set,.int .i64 xs[i].time,.fz 2 (xs[i].Lc.map paA)]:=by simp[List.getD,gi,scA]
   have hs:=AsN xs i gi;have hle:=AlI xs (i+1);apply zgN;simp only[go_sem,di,hg',laa]
   repeat refine And.intro (by first|omega|simpa using gi) ?_
   rw[show(paraSum (xs.take i):Int)+(xs[i].Lc.length:Int)=(paraSum (xs.take (i+1)):Int) by omega,show(i:Int)+1=((i+1:Nat):Int) by omega];refine ainv (hJ (i+1) (by omega) (by omega)) (Shift.low 1 (by simp) (by simp) ?_ ?_)
   .simp only[go_sem,lowB,flat]
   .simp only [go_sem]
  .have di:decide ((i:Int)<(xs.length:Int))=false:=by simp; omega
   have:i=xs.length:=by omega
   subst this;rw[lbt];have d3:decide ((xs.length:Int)>300)=false:=by simp; omega
   have d4:decide ((paraSum xs:Int)>4000)=false:=by simp; omega
   apply zgN;simp only[go_sem,di,d3,d4,laa];refine AaI (ι:=Nat×List LU) (fun y=>xs.length-y.1)
    (fun y=>[(51,.int .i64 y.1),(50,.int .i64 xs.length),(49,.fz 5 (xs.map scA)),(6,.mp 1),(1,.ptr 0 1 0 0)])
    (fun y=>[.arr 2 [.agg [.str ti,.fz 5 (xs.map scA)]],.mp (seenM y.2)]) (fun y=>y.1<=xs.length/\AlH y.2 (decide (y.1=0)) (xs.drop y.1)) (0,[]) ⟨by simp,t5⟩ ?_ ?_
   .refine Lo ?_
    simp only[go_sem]
   .clear hJ J
    rintro⟨i,acc⟩ ⟨g1,g2⟩ J hJ;simp only at g1 g2 hJ |-
    by_cases gi:i<xs.length
    .have di:decide ((i:Int)<(xs.length:Int))=true:=by simp; omega
     have hg':List.getD (List.map scA xs) i .any=.agg [.str xs[i].no,.int .i64 xs[i].place,.str xs[i].set,.int .i64 xs[i].time,.fz 2 (xs[i].Lc.map paA)]:=by simp[List.getD,gi,scA]
     have hd:xs.drop i=xs[i]::xs.drop (i+1):=lbc gi;rw[hd]at g2;obtain⟨c1,c2,c3,c4,c5,c6⟩:=g2;have e1:decide (xs[i].place<1)=false:=by simp; omega
     have e2:decide (xs[i].place>3)=false:=by simp; omega
     have e3:decide (xs[i].time<1)=false:=by simp; omega
     have e4:decide (xs[i].time>5)=false:=by simp; omega
     have e5:((i:Int)==0)=false\/((i:Int)==0)=true/\(xs[i].time==5)=false:=by
      by_cases h0:i=0
      .exact .inr ⟨by simp[h0],by simpa using c4 (by simp[h0])⟩
      .exact .inl (by simp; omega)
     have hsf:=AmY hS xs[i] c5;simp only[scA]at hsf;have nx:decide (i+1=0)=false:=by simp
     generalize hsc:xs[i]=sc at *;have fin:_:=fun h=>hJ (i+1,dd acc sc.no) ⟨by simp only; omega,by simp only; rw[nx]; exact c6⟩ h
     rcases c1 with h0|⟨n1,n2,n3⟩
     .have q0:(sc.no != [])=false:=by simp[h0]
      rcases e5 with e5|⟨e5,e6⟩
      .rcases @A5L sc.no acc with⟨j,v,m1,m2⟩|⟨m1,m2⟩
       .apply zgN
        simp only[go_sem,di,hg',q0,e1,e2,e3,e4,e5,m1,m2]
        repeat refine And.intro (by first|omega|simpa using gi) ?_
        refine zqN hg (hsf) ?_;simp only[go_sem];refine⟨by omega,by omega,?_⟩;rw[ic i];refine ainv (fin (by simp only; omega)) (Shift.low 2 (by simp) (by simp) ?_ ?_)
        .simp only[go_sem,lowB,flat,↓AfZ]
        .simp only [go_sem]
       .apply zgN
        simp only[go_sem,di,hg',q0,e1,e2,e3,e4,e5,m1,m2]
        repeat refine And.intro (by first|omega|simpa using gi) ?_
        refine zqN hg (hsf) ?_;simp only[go_sem];refine⟨by omega,by omega,?_⟩;rw[ic i];refine ainv (fin (by simp only; omega)) (Shift.low 2 (by simp) (by simp) ?_ ?_)
        .simp only[go_sem,lowB,flat,↓AfZ]
        .simp only [go_sem]
      .rcases @A5L sc.no acc with⟨j,v,m1,m2⟩|⟨m1,m2⟩
       .apply zgN
        simp only[go_sem,di,hg',q0,e1,e2,e3,e4,e5,e6,m1,m2]
        repeat refine And.intro (by first|omega|simpa using gi) ?_
        refine zqN hg (hsf) ?_;simp only[go_sem];refine⟨by omega,by omega,?_⟩;rw[ic i];refine ainv (fin (by simp only; omega)) (Shift.low 2 (by simp) (by simp) ?_ ?_)
        .simp only[go_sem,lowB,flat,↓AfZ]
        .simp only [go_sem]
       .apply zgN
        simp only[go_sem,di,hg',q0,e1,e2,e3,e4,e5,e6,m1,m2]
        repeat refine And.intro (by first|omega|simpa using gi) ?_
        refine zqN hg (hsf) ?_;simp only[go_sem];refine⟨by omega,by omega,?_⟩;rw[ic i];refine ainv (fin (by simp only; omega)) (Shift.low 2 (by simp) (by simp) ?_ ?_)
        .simp only[go_sem,lowB,flat,↓AfZ]
        .simp only [go_sem]
     .by_cases h0:sc.no=[]
      .rw [h0]at n1
       exact absurd n1 (by decide)
      have q0:(sc.no != [])=true:=by simp[h0]
      have m1:=@mfind_out sc.no acc 0 n3;have m2:seenM acc++[(.str sc.no,.bool true)]=seenM (dd acc sc.no):=by simp[dd,n3,seenM]
      rcases e5 with e5|⟨e5,e6⟩
      .apply zgN
       simp only[go_sem,di,hg',q0,e1,e2,e3,e4,e5,m1,m2]
       repeat refine And.intro (by first|omega|simpa using gi) ?_
       refine zpN (AjB sc.no n2) ?_;rw[n1];simp only[go_sem,di,hg',q0,e1,e2,e3,e4,e5,m1,m2]
       repeat refine And.intro (by first|omega|simpa using gi) ?_
       refine zqN hg (hsf) ?_;simp only[go_sem];refine⟨by omega,by omega,?_⟩;rw[ic i];refine ainv (fin (by simp only; omega)) (Shift.low 2 (by simp) (by simp) ?_ ?_)
       .simp only[go_sem,lowB,flat,↓AfZ]
       .simp only [go_sem]
      .apply zgN
       simp only[go_sem,di,hg',q0,e1,e2,e3,e4,e5,e6,m1,m2]
       repeat refine And.intro (by first|omega|simpa using gi) ?_
       refine zpN (AjB sc.no n2) ?_;rw[n1];simp only[go_sem,di,hg',q0,e1,e2,e3,e4,e5,e6,m1,m2]
       repeat refine And.intro (by first|omega|simpa using gi) ?_
       refine zqN hg (hsf) ?_;simp only[go_sem];refine⟨by omega,by omega,?_⟩;rw[ic i];refine ainv (fin (by simp only; omega)) (Shift.low 2 (by simp) (by simp) ?_ ?_)
       .simp only[go_sem,lowB,flat,↓AfZ]
       .simp only [go_sem]
    .have di:decide ((i:Int)<(xs.length:Int))=false:=by simp; omega
     apply zgN;simp only[go_sem,di];exact zt [2]
end Go.Proofs.YtccfklnmolggiaaGreatDoor
namespace Go.Proofs
open Shelf Proofs.Tryz
def Tryz.lays157_ren:Go.Shelf.Ren:=⟨fun|157=>149|229=>181|199=>182|261=>207|311=>218|312=>219|n=>n,fun|9=>9|31=>44|3=>3|5=>5|4=>4|119=>206|0=>0|40=>208|152=>227|21=>21|154=>229|51=>196|141=>231|196=>242|193=>239|198=>245|49=>243|194=>240|201=>248|226=>253|46=>174|227=>254|n=>n,fun|0=>1|6=>5|n=>n⟩
theorem Tryz.lays157:Go.Proofs.Lays.n157 prog Tryz.lays157_ren:=by constructor <;> intros <;> kernel_rfl
end Go.Proofs
namespace Go.Proofs.YtccfklnmolggiaaGreatDoor
open Av RowKit Proofs.Tryz
structure LibR(S:Std):Prop where
 ok:LibOk S
 spc:∃ t z,S 1=some (.cells (Lib.asciiSpaceTab.map fun z=>Value.int .u8 z).toArray t z)
theorem AcX:∀ (s cur:LU),∀ x∈Lib.fieldsGo cur s,x.length<=cur.length+s.length
 | [],cur,x,hx=>by
  grind[Lib.fieldsGo]
 | b::l,cur,x,hx=>by
  simp only[Lib.fieldsGo]at hx
  split at hx
  .split at hx
   .have:=AcX l [] x hx
    grind
   .rcases List.mem_cons.1 hx with rfl|hx
    .simp
    .have:=AcX l [] x hx
     grind
  .have:=AcX l _ x hx
   grind
theorem A5M:∀ (l:LU)(ws:Bool),Lib.cntF ws l<=l.length
 | [],_=>by simp[Lib.cntF]
 | b::l,ws=>by
  have:=A5M l (Lib.isSp b);simp only[Lib.cntF,laf]
  split <;> omega
theorem A5N(s:LU):(Lib.fields s).length<=s.length/\∀ x∈Lib.fields s,x.length<=s.length:=by
 refine⟨by grind[Lib.fields_length,A5M],fun x hx=>?_⟩;have:=AcX s [] x hx
 grind
theorem A1H{S:Std}(hS:LibR S)(s:LU)(hs:s.length<1000000)(ha:AeX s):PcH prog S 149 [.str s] (· = .fz 1 (strs (Lib.fields s))):=by
 refine ⟨hB149,fun h w vs' hg hm hv=>?_⟩;have:=AvZ s h vs' hv;subst this;obtain ⟨t,z,hcell⟩:=hS.spc;have htab:Lib.TabIs prog w "strings.asciiSpace" .u8 Lib.asciiSpaceTab:=by
  have h1:prog.globalNamed "strings.asciiSpace" = some 1:=by kernel_rfl
  have h2:=hg _ _ hcell;unfold Lib.TabIs World.var?;rw[h1];simp only[Option.bind_some,h2]
 refine(Any.strings_Fields Tryz.lays157 (by kernel_rfl) (by kernel_rfl) ⟨s.toArray⟩ w (show s.length<_ by omega) (AhD ha) htab).mono ?_;rintro e w' ⟨rfl,rfl⟩;have hdl:(⟨s.toArray⟩:ByteArray).data.toList=s:=rfl;rw[hdl];generalize Lib.fields s=sl;have hval:(sl.map fun l=>Value.string ⟨l.toArray⟩)=sl.map sval:=rfl;rw[hval];have h1:∀ v∈sl.map sval,v.oneCell'=true:=by intro v hv; obtain⟨x,_,rfl⟩:=List.mem_map.1 hv; rfl
 have hmine:Mine h (fun _=>none) [] w:=⟨hm,fun id blk e=>by simp at e,fun _ _=>rfl,fun i j g t t' e=>by simp at e,fun i g t e=>by simp at e⟩;obtain⟨m2,l2⟩:=hmine.freezeNew (sl.map sval) 9 h1;refine⟨_,_,Mem.add h w.heap.size (sl.map sval),rfl,rfl,m2.mem,l2.hle,fun b o e n=>?_,.alloc w _,?_⟩
 .rcases l2.hnew b o e n with⟨j,t,hj⟩|hs
  .cases hj
  .exact hs
 .have:=RV.fz (h:=Mem.add h w.heap.size (sl.map sval)) (Lf:=Lf0) (fl:=true) w.heap.size 0 sl.length 1 (strs sl) (sl.map sval) ?_ (by simp[cellsOf]) ?_ (by simp)
  .simpa using this
  .rw [AkW]
   generalize Mem.add h w.heap.size (sl.map sval)=hh;generalize sl=z
   induction z with
   | nil=>exact .nil
   | cons x z ih=>exact .cons (.str x) ih
  .intro k v hv
   simp only[Mem.add,lau,if_true];exact hv
end Go.Proofs.YtccfklnmolggiaaGreatDoor
namespace Go.Proofs.YtccfklnmolggiaaGreatDoor
open Av RowKit ChangeShapes WideShapes ChangeAt Proofs.Tryz
theorem BbR:Rows.laid_strings_asciiSpace=Lib.tabData (H:=Unit) .u8 Lib.asciiSpaceTab:=by kernel_rfl
theorem BgV{W:World}(h:W.ShapedOpen prog){laid:List (String×DataW Unit)}(hp:(laid.all fun x=>x.2.handleName?.isNone)=true)(hL:laidMetH prog laid W)
  (e1:laid.filter (fun x=>x.1 == "internal/strconv.uint64pow10")=[("internal/strconv.uint64pow10",Rows.laid_internal_strconv_uint64pow10)])
  (e2:laid.filter (fun x=>x.1 == "strconv.ErrSyntax")=[("strconv.ErrSyntax",Rows.laid_strconv_ErrSyntax)])
  (e3:laid.filter (fun x=>x.1 == "strings.asciiSpace")=[("strings.asciiSpace",Rows.laid_strings_asciiSpace)]):LibR (A4U W):=by
 refine ⟨BjH h hp hL e1 e2,?_⟩;rw [MakeChecks.laidMetH_plain _ _ _ hp] at hL;have h1:=hL.filter (fun x=>x.1 == "strings.asciiSpace");rw [e3,BbR] at h1;have ht:=Lib.tabIs_of_head (g:=1) (t:=206) (e:=5) (n:=256) (by kernel_rfl) (by kernel_rfl) underlying206 underlying5 (by kernel_rfl) (by kernel_rfl) h1;exact ApQ (by kernel_rfl) ht
