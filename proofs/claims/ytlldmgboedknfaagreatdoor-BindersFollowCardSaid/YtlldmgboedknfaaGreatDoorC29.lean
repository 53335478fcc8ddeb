/- What the layout of pages asks of a block. -/
import Derived.Test.YtlldmgboedknfaaGreatDoorC28
set_option maxRecDepth 100000
set_option maxHeartbeats 2000000
set_option linter.unusedSimpArgs false
set_option linter.unusedVariables false
namespace Go.Proofs.YtlldmgboedknfaaGreatDoor
open Go Go.Av Go.RowKit _root_.Go.Proofs.Tryz
theorem more_pc:Pc prog 124 [] (· = .str AcD):=by
 have hr:=AgD [32] 20 (by simp) (by omega);have hbl:=blanks_len 20;refine zpIN func124 rfl fun h ρ w=>?_
 simp only[go_sem];refine zpN (hr) ?_;simp only[go_sem]
 repeat refine aqa ?_
 exact zt [0]
theorem BdQ(b:Bl)(hl:b.name.length<1000000):Pc prog 125 [blA b] (· = .str (goesLn b)):=by
 have hr:=AgD [32] 20 (by simp) (by omega);have hbl:=blanks_len 20;simp only[blA];refine zpIN func125 rfl fun h ρ w=>?_
 simp only[go_sem];refine zr [.str (Lib.repeatL [32] 20)] mixed ?_;simp only[go_sem]
 repeat refine And.intro (by first|omega|exact hr.at|exact .inl trivial|rfl|(simp; done)|(simp; omega)) ?_
 refine zgN ?_;simp only[go_sem];exact zt [2]
theorem AyA(b:Bl)(fr k:Nat)(h1:1<=k)(hk:b.kind=3->k<=b.kinds.length)(hn:b.lines.length<=100000000)(hf:fr<=100000000)(hk2:k<=100000000):Pc prog 163 [blA b,.int .i64 (fr:Int),.int .i64 (k:Int)] (· = .bool (breaksL b fr k)):=by
 unfold breaksL;simp only[blA]
 cases k1:b.kind==1 with
 | true =>
  simp only[if_true]
  cases d1:decide ((k:Int)-fr>=2)with
  | true =>
   refine zpIN func163 rfl fun h ρ w=>?_
   simp only[go_sem];refine zr [] mixed ?_;simp only[go_sem,List.length_map]
   repeat refine aqa ?_
   refine zgN ?_;simp only[go_sem,k1,d1];exact zt [6]
  | false =>
   refine zpIN func163 rfl fun h ρ w=>?_
   simp only[go_sem];refine zr [] mixed ?_;simp only[go_sem,List.length_map]
   repeat refine aqa ?_
   refine zgN ?_;simp only[go_sem,k1,d1];exact zt [6]
 | false =>
  simp only[Bool.false_eq_true,if_false]
  cases k3:b.kind==3 with
  | false =>
   refine zpIN func163 rfl fun h ρ w=>?_
   simp only[go_sem];refine zr [] mixed ?_;simp only[go_sem,List.length_map]
   repeat refine aqa ?_
   refine zgN ?_;simp only[go_sem,k1,k3];exact zt [6]
  | true =>
   simp only[if_true];have hkk:=hk (by simpa using k3);have hi:((k:Int)-1).toNat=k-1:=by omega
   have hg:List.getD (b.kinds.map (AV.int .i64)) (k-1) .any=.int .i64 (b.kinds.getD (k-1) 0):=by
    have:k-1<b.kinds.length:=by omega
    simp[List.getD,this]
   have e1:(k:Int)-1=((k-1:Nat):Int):=by omega
   by_cases f0:fr=0
   .have d0:((fr:Int)==0)=true:=by simp[f0]
    simp only[f0,if_true,Int.natCast_zero];rw[f0]at d0
    cases q1:b.kinds.getD (k-1) 0==2 with
    | false =>
     refine zpIN func163 rfl fun h ρ w=>?_
     simp only[go_sem];refine zr [] mixed ?_;simp only[go_sem,List.length_map]
     repeat refine aqa ?_
     refine zgN ?_;simp only[go_sem,k1,k3,d0,hi,hg,q1,List.length_map]
     repeat refine aqa ?_
     exact zt [6]
    | true =>
     cases d1:decide ((k:Int)-0-1>=2)with
     | false =>
      refine zpIN func163 rfl fun h ρ w=>?_
      simp only[go_sem];refine zr [] mixed ?_;simp only[go_sem,List.length_map]
      repeat refine aqa ?_
      refine zgN ?_;simp only[go_sem,k1,k3,d0,hi,hg,q1,d1,List.length_map]
      repeat refine aqa ?_
      exact zt [6]
     | true =>
      refine zpIN func163 rfl fun h ρ w=>?_
      simp only[go_sem];refine zr [] mixed ?_;simp only[go_sem,List.length_map]
      repeat refine aqa ?_
      refine zgN ?_;simp only[go_sem,k1,k3,d0,hi,hg,q1,d1,List.length_map]
      repeat refine aqa ?_
      exact zt [6]
   .have d0:((fr:Int)==0)=false:=by rw[beq_eq_false_iff_ne]; omega
    simp only[f0,if_false,Int.sub_zero]
    cases q1:b.kinds.getD (k-1) 0==2 with
    | false =>
     refine zpIN func163 rfl fun h ρ w=>?_
     simp only[go_sem];refine zr [] mixed ?_;simp only[go_sem,List.length_map]
     repeat refine aqa ?_
     refine zgN ?_;simp only[go_sem,k1,k3,d0,hi,hg,q1,List.length_map]
     repeat refine aqa ?_
     exact zt [6]
    | true =>
     cases d1:decide ((k:Int)-fr>=2)with
     | false =>
      refine zpIN func163 rfl fun h ρ w=>?_
      simp only[go_sem];refine zr [] mixed ?_;simp only[go_sem,List.length_map]
      repeat refine aqa ?_
      refine zgN ?_;simp only[go_sem,k1,k3,d0,hi,hg,q1,d1,List.length_map]
      repeat refine aqa ?_
      exact zt [6]
     | true =>
      refine zpIN func163 rfl fun h ρ w=>?_
      simp only[go_sem];refine zr [] mixed ?_;simp only[go_sem,List.length_map]
      repeat refine aqa ?_
      refine zgN ?_;simp only[go_sem,k1,k3,d0,hi,hg,q1,d1,List.length_map]
      repeat refine aqa ?_
      exact zt [6]
theorem clone0_pc:Pc prog 63 [.fz 5 []] (· = .fz 5 []):=by
 refine zpIN func63 rfl fun h ρ w=>?_
 simp only[go_sem];intro b;refine zgN ?_
 cases b with
 | true =>
  simp only[go_sem];exact ARet.shift (Shift.nilfz 2 5 rfl) (aret [2] rfl ⟨rfl,rfl⟩)
 | false =>
  simp only[go_sem];refine⟨.inl trivial,?_⟩;exact ARet.shift (Shift.freeze 2 (id:=0) rfl rfl rfl (Nat.le_refl _) rfl) (aret [2] rfl ⟨rfl,rfl⟩)
theorem AuM(x:Sc)(xs:List Sc)(hl:xs.length<=100000) :
  Ct prog 63 [.fz 5 ((x::xs).map scA)] [] (fun r s=>r=.sl 0 0 (x::xs).length (x::xs).length/\s=[.arr 5 ((x::xs).map scA)]):=by
 refine zcIN func63 rfl fun h ρ w=>?_
 simp only[go_sem,scA];refine⟨by simp,by simp; omega,by simp; omega,aret [2] rfl ⟨by simp[resV,Av.get,scA],rfl⟩⟩
def nm(i:Nat)(x:Sc):Sc:={ x with no:=Lib.itoa ((i:Int)+1) }
def numL:Nat->List Sc->List Sc
 | _,[]=>[]
 | i,x::r=>nm i x::numL (i+1) r
def numR(x:Sr):Sr:=⟨x.title,numL 0 x.scenes⟩
theorem AyB{S:Std}(hS:LibOk S)(x:Sr)(hl:x.scenes.length<=1000):PcH prog S 23 [srA x] (· = srA (numR x)):=by
 obtain⟨ti,xs⟩:=x
 cases xs with
 | nil =>
  simp only[srA,List.map_nil,numR,numL];refine zqIN func23 rfl fun h ρ w hg=>?_
  simp only[go_sem];refine AnV [] 99 [.fz 5 []] mixed (by decide) rfl rfl 100 ?_;simp only[go_sem];refine⟨clone0_pc.at,rfl,?_⟩;refine zgN ?_;simp only[go_sem];refine AcT (around (zgN ?_));simp only[go_sem];exact AbB [.cell 2 28] rfl [_] ⟨by simp only[go_sem,sideIs],trivial⟩ ⟨rfl,rfl⟩
 | cons x xs =>
  simp only[srA];refine zqIN func23 rfl fun h ρ w hg=>?_
  simp only[go_sem];refine AWp.shift (Shift.reserve 5) ?_;refine AnV [4] 2 [] mixed (by decide) rfl rfl 100 ?_;simp only[go_sem];have hfro:(flat ((x::xs).map scA)).all Av.frozen=true:=AaD (x::xs);refine AwX (AuM x xs (by simp at hl |-; omega)) (by simp) (by simp) rfl hfro rfl ?_;simp only[go_sem];refine zgN ?_;simp only[go_sem];refine⟨by simp,?_⟩;have hys:AV.fz 5 (List.map scA (numR ⟨ti,x::xs⟩).scenes)=.fz 5 (List.map scA (numL 0 (x::xs))):=rfl;rw[hys];clear hys;have hl':xs.length+1<=1000:=by simpa using hl
  have hnum:∃ out,numL 0 (x::xs)=out:=⟨_,rfl⟩;obtain⟨out,hout⟩:=hnum;rw[hout];refine AaI (ι:=List Sc×List Sc) (fun y=>y.2.length)
   (fun y=>[(14,.int .i64 y.1.length),(13,.int .i64 ↑(xs.length+1)),(3,.ptr 3 1 0 0),(2,.ptr 1 1 0 0)])
   (fun y=>[.arr 2 [.agg [.str ti,.fz 5 (scA x::List.map scA xs)]],.arr 2 [.agg [.str [],.raw (.slice none 0 0)]],.arr 5 (List.map scA (y.1++y.2)),.arr 2 [.agg [.str ti,.sl 2 0 (xs.length+1) (xs.length+1)]]])
   (fun y=>y.1.length+y.2.length=xs.length+1/\y.1++numL y.1.length y.2=out) ([],x::xs) ⟨by simp,hout⟩ ?_ ?_
  .refine Shift.weak ?_
   simp only[go_sem]
  .rintro ⟨dn,rest⟩ ⟨g1,g2⟩ J hJ
   simp only at g1 g2 hJ |-
   cases rest with
   | cons y r =>
    have di:decide ((dn.length:Int)<((xs.length+1:Nat):Int))=true:=by simp at g1 |-; omega
    refine zgN ?_;simp only[go_sem,di];refine zr [.str (Lib.itoa ((dn.length:Int)+1))] mixed ?_;have hx:List.getD (List.map scA (dn++y::r)) dn.length .any=.agg [.str y.no,.int .i64 y.place,.str y.set,.int .i64 y.time,.fz 2 (y.paras.map paA)]:=by simp[List.getD,scA]
    simp only[go_sem,hx];refine⟨by omega,by omega,(AjC hS _ (by omega) (by omega)).at hg,rfl,by simp at g1 |-; omega,by omega,by simp at g1 |-; omega,by omega,by simp,?_⟩;have hset:(List.map scA (dn++y::r)).set dn.length (.agg [.str (Lib.itoa ((dn.length:Int)+1)),.int .i64 y.place,.str y.set,.int .i64 y.time,.fz 2 (y.paras.map paA)])=List.map scA ((dn++[nm dn.length y])++r):=by
     simp[nm,scA]
    rw[hset];refine zgN ?_;simp only[go_sem];refine⟨by omega,by omega,?_⟩;rw[show(dn.length:Int)+1=((dn++[nm dn.length y]).length:Int) by simp];refine ainv (hJ (dn++[nm dn.length y],r) ⟨by simp at g1 |-; omega,by rw[<- g2]; simp[numL]⟩ (by simp)) (Shift.weak ?_);simp only[go_sem]
   | nil =>
    have di:decide (((xs.length+1:Nat):Int)<((xs.length+1:Nat):Int))=false:=by simp
    simp only[List.append_nil,numL]at g2 |-;subst g2;have hn:dn.length=xs.length+1:=by simpa using g1
    refine AWp.shift (Shift.frz 2 rfl (AaD dn)) ?_;simp only[go_sem,frzE,frz,frz1,frzC,frzB,List.length_map,hn,Nat.le_refl];have:List.take (xs.length+1) (List.map scA dn)=List.map scA dn:=List.take_of_length_le (by simp; omega);simp only[this];refine zgN ?_;simp only[go_sem,di];exact AbB [.cell 2 28] rfl [_] ⟨by simp only[go_sem,sideIs,numR],trivial⟩ ⟨rfl,rfl⟩
def DIG:List UInt8:=[48,49,50,51,52,53,54,55,56,57]
def CAPS:List UInt8:=[65,66,67,68,69,70,71,72,73,74,75,76,77,78,79,80,81,82,83,84,85,86,87,88,89,90]
theorem BdR{S:Std}(hS:LibOk S):PcH prog S 65 [.str []] (· = .tup [.int .i64 0,.any]):=by
 refine⟨hB65,fun h w vs' hg hm hv=>?_⟩;have:=A1B [] h vs' hv;subst this;obtain⟨te,pe,t,z,hs⟩:=hS.syn;have hcell:w.cell? ⟨Tryz.laysC172_ren.g 15,0,none⟩=some (.iface te pe):=(Lib.cell_of_heap (hg _ _ hs) 0).trans rfl;refine(Any.strconv_Atoi_err Tryz.laysC172 ⟨#[]⟩ (by decide) rfl (.iface te pe) w hcell (.inr ⟨te,pe,rfl⟩)).mono ?_;rintro e w' ⟨N,rfl,_,_,hb⟩;have hs:Same w w':=AhB hb;exact⟨_,_,h,rfl,rfl,fun b o v e=>⟨hs.cell (hm b o v e).1,(hm b o v e).2⟩,fun _ _ _ x=>x,fun b o e n=>(n e).elim,hs,.tup [_,_] [_,_] (.cons (.int _ _) (.cons (.any _) .nil))⟩
theorem AjL(s:List UInt8)(hs:s.length<1000000)(h0:Lib.trimLeftS s DIG=[]):Pc prog 64 [.str s] (· = .tup [.str s,.str []]):=by
 refine zpIN func64 rfl fun h ρ w=>?_
 simp only[go_sem];refine zpN (AoJ s DIG (by decide) (AjF (by decide))) ?_;rw[h0];have:List.take s.length s=s:=List.take_length;simp only[go_sem,this];refine⟨by omega,by omega,by omega,by omega,?_⟩;refine aret [2,3] rfl ⟨?_,rfl⟩
 simp[resV,Av.get]
theorem BpV(s:List UInt8)(a b:Int)(h1:a<=s.length)(h2:s.length<=b):Pc prog 132 [.str s,.int .i64 a,.int .i64 b] (· = .bool true):=by
 have d1:decide ((s.length:Int)>=a)=true:=by simpa using h1
 have d2:decide ((s.length:Int)<=b)=true:=by simpa using h2
 refine zpIN func132 rfl fun h ρ w=>?_
 simp only[go_sem,d1,d2];exact zt [6]
theorem BjP:Pc prog 133 [.str [],.str CAPS] (· = .bool true):=by
 refine zpIN func133 rfl fun h ρ w=>?_
 simp only[go_sem];refine zpN (BpJ [] CAPS (by decide) (by decide) (AjF (by decide))) ?_;rw[show Lib.trimS [] CAPS=[] from rfl];simp only[go_sem];exact zt [4]
theorem A1X(s:List UInt8)(h0:Lib.trimLeftS s DIG=[])(h1:1<=s.length)(h2:s.length<=3)(h3:s.getD 0 0≠48):Pc prog 67 [.str s] (· = .bool true):=by
 have d3:(((s.getD 0 0).toNat:Int) != 48)=true:=by
  simp only[bne_iff_ne,ne_eq];intro e;exact h3 (UInt8.toNat_inj.1 (by simpa using(show(s.getD 0 0).toNat=48 by omega)))
 refine zpIN func67 rfl fun h ρ w=>?_
 simp only[go_sem];refine zpN (AjL s (by omega) h0) ?_;simp only[go_sem];refine zpN (BpV s 1 3 (by omega) (by omega)) ?_;simp only[go_sem];refine zpN (BjP) ?_;simp only[go_sem];refine zpN (AcJ [] [65] (by simp)) ?_;rw[show Lib.hasSuffix [] [65]=false from rfl];simp only[go_sem,d3];refine⟨by omega,?_⟩;exact zt [2]
theorem BdS(s:List UInt8)(m:Int)(h0:Lib.trimLeftS s DIG=[])(h1:s.length<=18)(h2:Lib.atoi s=some m):Pc prog 32 [.str s,.str [57]] (· = .int .i64 (orI (cmpI m 9) 0)):=by
 refine zpIF func32 rfl fun h ρ w=>?_
 simp only[go_sem];refine zpF (AjL s (by omega) h0) ?_;simp only[go_sem];refine zpF (AjL [57] (by simp) rfl) ?_;simp only[go_sem];refine zpF (AkP s m h1 h2) ?_;simp only[go_sem];refine zpF (AkP [57] 9 (by simp) rfl) ?_;simp only[go_sem];refine zpF (AkQ m 9) ?_;simp only[go_sem];refine zpF (AeP [] []) ?_;rw[show Lib.compareBytes [] []=0 from rfl];simp only[go_sem];refine zpF (BoW (cmpI m 9) 0) ?_;simp only[go_sem];exact zt [4]
def AcX(n:Nat):List UInt8:=if n=0 then[] else dig3 n
theorem AkY(j:Nat)(hj:j<5):Lib.trimLeftS (AcX j) DIG=[]/\(AcX j).length<=3/\(j≠0->Lib.atoi (AcX j)=some (j:Int)) /\
  Lib.trimLeftS (dig3 ((j:Int)+1)) DIG=[]/\(dig3 ((j:Int)+1)).length=1/\(dig3 ((j:Int)+1)).getD 0 0≠48/\Lib.atoi (dig3 ((j:Int)+1))=some ((j:Int)+1)/\(dig3 ((j:Int)+1)==[])=false/\AcX (j+1)=dig3 ((j:Int)+1):=by
 have:j=0\/j=1\/j=2\/j=3\/j=4:=by omega
 rcases this with rfl|rfl|rfl|rfl|rfl <;> exact⟨by decide,by decide,by decide,by decide,by decide,by decide,by decide,by decide,by decide⟩
theorem AuN{S:Std}(hS:LibOk S)(j:Nat)(hj:j<5)(b:List UInt8)(hb:b=[]\/b=[57]):PcH prog S 26 [.str (AcX j),.str b] (· = .tup [.str (AcX (j+1)),.bool true]):=by
 obtain⟨f1,f2,f3,f4,f5,f6,f7,f8,f9⟩:=AkY j hj;rw[f9];have hit:=AjC hS ((j:Int)+1) (by omega) (by omega);rw[AjD (by omega) (by omega)]at hit;have ho:=BdS (dig3 ((j:Int)+1)) ((j:Int)+1) f4 (by omega) f7;have hc:orI (cmpI ((j:Int)+1) 9) 0=-1:=by
  have:cmpI ((j:Int)+1) 9=-1:=by unfold cmpI; rw[if_pos (by omega)]
  rw[this]; rfl
 rw[hc]at ho;have hn:=A1X (dig3 ((j:Int)+1)) f4 (by omega) (by omega) f6;generalize dig3 ((j:Int)+1)=x at *;refine zqIN func26 rfl fun h ρ w hg=>?_
 simp only[go_sem];refine zpN (AjL (AcX j) (by omega) f1) ?_;simp only[go_sem]
 by_cases h0:j=0
 .subst h0
  refine zqN hg (BdR hS) ?_;simp only[go_sem];refine AcT (around (zgN ?_));simp only[go_sem];refine zqN hg (hit) ?_;simp only[go_sem];refine⟨.inl trivial,?_⟩;refine AcT (around (zgN ?_));simp only[go_sem];refine zpN (hn) ?_;simp only[go_sem]
  rcases hb with rfl|rfl
  .simp only [go_sem]
   exact zt [4,5]
  .simp only [go_sem]
   refine zpN (ho) ?_;simp only[go_sem];exact zt [4,5]
 .refine zpN (AkP (AcX j) j (by omega) (f3 h0)) ?_
  simp only[go_sem];refine AcT (around (zgN ?_));simp only[go_sem];refine⟨by omega,by omega,?_⟩;refine zqN hg (hit) ?_;simp only[go_sem];refine⟨.inl trivial,?_⟩;refine AcT (around (zgN ?_));simp only[go_sem];refine zpN (hn) ?_;simp only[go_sem]
  rcases hb with rfl|rfl
  .simp only [go_sem]
   exact zt [4,5]
  .simp only [go_sem]
   refine zpN (ho) ?_;simp only[go_sem];exact zt [4,5]
def blkS(L:List Int)(k:Int):Blk:=.arr 2 [str L k]
def blkZ:Blk:=.arr 2 [.agg [.str [],.raw (.slice none 0 0)]]
theorem AyC{S:Std}(hS:LibOk S)(L:List Int)(k:Int)(ti:List UInt8)(x:Sc)(xs:List Sc)(hl:xs.length<=1000) :
  CtH prog S 23 [srA ⟨ti,x::xs⟩] [blkS L k,blkZ] (fun r s=>r=.agg [.str ti,.sl 4 0 (xs.length+1) (xs.length+1)] /\
   s=[blkS L k,blkZ,.arr 2 [srA ⟨ti,x::xs⟩],.arr 2 [.agg [.str ti,.sl 4 0 (xs.length+1) (xs.length+1)]],.arr 5 ((numL 0 (x::xs)).map scA),.arr 2 [.agg [.str ti,.sl 4 0 (xs.length+1) (xs.length+1)]]]):=by
 simp only[srA];refine zdIN func23 rfl fun h ρ w hg=>?_
 simp only[go_sem];refine AWp.shift (Shift.reserve 5) ?_;refine AnV [4] 4 [] mixed (by decide) rfl rfl 100 ?_;simp only[go_sem];have hfro:(flat ((x::xs).map scA)).all Av.frozen=true:=AaD (x::xs);refine AwX (AuM x xs (by omega)) (by simp) (by simp) rfl hfro rfl ?_;simp only[go_sem];refine zgN ?_;simp only[go_sem];refine⟨by simp,?_⟩;have hnum:∃ out,numL 0 (x::xs)=out:=⟨_,rfl⟩;obtain⟨out,hout⟩:=hnum;rw[hout];refine AaI (ι:=List Sc×List Sc) (fun y=>y.2.length)
  (fun y=>[(14,.int .i64 y.1.length),(13,.int .i64 ↑(xs.length+1)),(3,.ptr 5 1 0 0),(2,.ptr 3 1 0 0)])
  (fun y=>[blkS L k,blkZ,.arr 2 [.agg [.str ti,.fz 5 (scA x::List.map scA xs)]],.arr 2 [.agg [.str [],.raw (.slice none 0 0)]],.arr 5 (List.map scA (y.1++y.2)),.arr 2 [.agg [.str ti,.sl 4 0 (xs.length+1) (xs.length+1)]]])
  (fun y=>y.1.length+y.2.length=xs.length+1/\y.1++numL y.1.length y.2=out) ([],x::xs) ⟨by simp,hout⟩ ?_ ?_
 .refine Shift.weak ?_
  simp only[go_sem]
 .rintro ⟨dn,rest⟩ ⟨g1,g2⟩ J hJ
  simp only at g1 g2 hJ |-
  cases rest with
  | cons y r =>
   have di:decide ((dn.length:Int)<((xs.length+1:Nat):Int))=true:=by simp at g1 |-; omega
   refine zgN ?_;simp only[go_sem,di];refine zr [.str (Lib.itoa ((dn.length:Int)+1))] mixed ?_;have hx:List.getD (List.map scA (dn++y::r)) dn.length .any=.agg [.str y.no,.int .i64 y.place,.str y.set,.int .i64 y.time,.fz 2 (y.paras.map paA)]:=by simp[List.getD,scA]
   simp only[go_sem,hx];refine⟨by omega,by omega,(AjC hS _ (by omega) (by omega)).at hg,rfl,by simp at g1 |-; omega,by omega,by simp at g1 |-; omega,by omega,by simp,?_⟩;have hset:(List.map scA (dn++y::r)).set dn.length (.agg [.str (Lib.itoa ((dn.length:Int)+1)),.int .i64 y.place,.str y.set,.int .i64 y.time,.fz 2 (y.paras.map paA)])=List.map scA ((dn++[nm dn.length y])++r):=by
    simp[nm,scA]
   rw[hset];refine zgN ?_;simp only[go_sem];refine⟨by omega,by omega,?_⟩;rw[show(dn.length:Int)+1=((dn++[nm dn.length y]).length:Int) by simp];refine ainv (hJ (dn++[nm dn.length y],r) ⟨by simp at g1 |-; omega,by rw[<- g2]; simp[numL]⟩ (by simp)) (Shift.weak ?_);simp only[go_sem]
  | nil =>
   simp only[List.append_nil,numL]at g2 |-;subst g2;have hn:dn.length=xs.length+1:=by simpa using g1
   have di:decide ((dn.length:Int)<((xs.length+1:Nat):Int))=false:=by simp; omega
   refine zgN ?_;simp only[go_sem,di];exact AbB [.cell 2 28] rfl [_] ⟨by simp only[go_sem,sideIs],trivial⟩ ⟨rfl,rfl⟩
theorem AuO(i:Nat)(hi:i<5):Lib.itoa ((i:Int)+1)=AcX (i+1):=by
 rw[AjD (by omega) (by omega)];exact(AkY i hi).2.2.2.2.2.2.2.2.symm
theorem numL_len:∀ (i:Nat)(xs:List Sc),(numL i xs).length=xs.length
 | _,[]=>rfl
 | i,x::r=>by simp[numL,numL_len (i+1) r]
theorem AuP:∀ (xs:List Sc)(i j:Nat)(h:j<xs.length),(numL i xs)[j]? = some (nm (i+j) xs[j])
 | [],i,j,h=>by simp at h
 | x::r,i,0,h=>by simp[numL]
 | x::r,i,j+1,h=>by
  simp only[numL,List.getElem?_cons_succ,List.getElem_cons_succ];rw[AuP r (i+1) j (by simpa using h)]
  congr 2
  omega
theorem set_same{α:Type}{l:List α}{i:Nat}{a:α}(h:l[i]? = some a):l.set i a=l:=by
 apply List.ext_getElem?;intro j;rw[List.getElem?_set]
 split
 .rename_i hj
  subst hj
  split
  .exact h.symm
  .rename_i hn
   rw[List.getElem?_eq_none (by omega)]at h
   cases h
 .rfl
theorem BdT{S:Std}(hS:LibOk S)(L:List Int)(k:Int)(h3:0<=k)(h4:k<=500000) :
  McH prog S 6 2 (str L k) [] (fun r s=>∃ (x:Sr) (k':Int),r=srA (numR x)/\DrawnR x/\s=str L k'/\k<=k'/\k'<=k+40000):=by
 refine zdIF func6 rfl fun h ρ w hg=>?_
 simp only[go_sem];refine zm 0 (BcV L k (by omega) (by omega)) ?_;rintro _ _ ⟨⟨ti,xs⟩,k',rfl,hx,rfl,t1,t2⟩;have hlen:xs.length<=5:=hx.len
 cases xs with
 | nil =>
  refine zgF ?_;simp only[go_sem];refine zqN hg (AyB hS ⟨ti,[]⟩ (by simp)) ?_;have e0:srA (numR ⟨ti,[]⟩)=.agg [.str ti,.fz 5 []]:=rfl;rw[e0];simp only[go_sem];refine zm 0 (AeQ L k' 3 (by omega) (by omega) (by omega) (by omega)) ?_;rintro _ _ ⟨⟨b,rfl⟩,rfl⟩
  cases b with
  | true =>
   refine zgF ?_;simp only[go_sem];refine AcT (around (zgN ?_));simp only[go_sem];exact AbB [.cell 2 28] rfl [_] ⟨by simp only[go_sem,sideIs,numR,numL],trivial⟩ ⟨_,_,rfl,⟨⟨ti,[]⟩,k'+1,rfl,hx,rfl,by omega,by omega⟩,rfl,rfl⟩
  | false =>
   refine zgF ?_;simp only[go_sem];exact AbB [.cell 2 28] rfl [_] ⟨by simp only[go_sem,sideIs,numR,numL],trivial⟩ ⟨_,_,rfl,⟨⟨ti,[]⟩,k'+1,rfl,hx,rfl,by omega,by omega⟩,rfl,rfl⟩
 | cons x xs =>
  refine zgF ?_;simp only[go_sem];refine zaH hg (AyC hS L k' ti x xs (by simp at hlen; omega)) ?_;rintro _ _ ⟨rfl,rfl⟩;refine zgF ?_;simp only[go_sem,blkS,blkZ];refine zm 0 (AeQ L k' 3 (by omega) (by omega) (by omega) (by omega)) ?_;rintro _ _ ⟨⟨b,rfl⟩,rfl⟩;have htake:List.take (xs.length+1) (List.map scA (numL 0 (x::xs)))=List.map scA (numL 0 (x::xs)):=List.take_of_length_le (by simp[numL_len]);have hl5:xs.length+1<=5:=by simpa using hlen
  cases b with
  | false =>
   refine AWp.shift (Shift.frz 4 rfl (AaD _)) ?_;simp only[go_sem,srA,↓AfQ,↓AiK,frzE,frz,frz1,frzC,frzB,List.length_map,numL_len,Nat.le_refl];simp only[htake];refine zgF ?_;simp only[go_sem];exact AbB [.cell 2 28] rfl [_] ⟨by simp only[go_sem,sideIs,numR],trivial⟩ ⟨_,_,rfl,⟨⟨ti,x::xs⟩,k'+1,rfl,hx,rfl,by omega,by omega⟩,rfl,rfl⟩
  | true =>
   refine zgF ?_;simp only[go_sem];refine⟨by simp[numL_len],?_⟩;refine AaI (ι:=Nat×Int) (fun y=>5-y.1)
    (fun y=>[(14,.int .i64 y.1),(13,.int .i64 ↑(xs.length+1)),(4,.str (AcX y.1)),(3,.ptr 6 1 0 0),(2,.ptr 1 1 0 0),(0,.ptr 0 1 0 0)])
    (fun y=>[.arr 2 [str L y.2],.arr 2 [.agg [.str [],.raw (.slice none 0 0)]],.arr 2 [srA ⟨ti,x::xs⟩],.arr 2 [.agg [.str ti,.sl 4 0 (xs.length+1) (xs.length+1)]],.arr 5 (List.map scA (numL 0 (x::xs))),.arr 2 [.agg [.str ti,.sl 4 0 (xs.length+1) (xs.length+1)]],.arr 2 [.agg [.str ti,.sl 4 0 (xs.length+1) (xs.length+1)]]])
    (fun y=>y.1<=xs.length+1/\k<=y.2/\y.2<=k+30001+y.1) (0,k'+1) ⟨by simp,by simp only; omega,by simp only; omega⟩ ?_ ?_
   .refine Shift.weak ?_
    simp only[go_sem,AcX]
   .rintro ⟨i,k2⟩ ⟨g1,g2,g3⟩ J hJ
    simp only at g1 g2 g3 hJ |-
    by_cases gi:i<xs.length+1
    .have di:decide ((i:Int)<((xs.length+1:Nat):Int))=true:=by simp; omega
     have hlast:(AcX (i+1)==[])=false:=by
      have:=AkY i (by omega);rw[this.2.2.2.2.2.2.2.2]; exact this.2.2.2.2.2.2.2.1
     refine zgF ?_;simp only[go_sem,di];refine zm 0 (AlS L k2 [[],[],[57]] (by decide) (by decide) (by omega) (by omega)) ?_;rintro _ _ ⟨⟨z,hz,rfl⟩,rfl⟩;have hzz:z=[]\/z=[57]:=by simpa using hz
     refine zgF ?_;simp only[go_sem];refine zqF hg (AuN hS i (by omega) z hzz) ?_;have hi:i<(x::xs).length:=by simpa using gi
     have hget:(List.map scA (numL 0 (x::xs)))[i]? = some (.agg [.str (AcX (i+1)),.int .i64 (x::xs)[i].place,.str (x::xs)[i].set,.int .i64 (x::xs)[i].time,.fz 2 ((x::xs)[i].paras.map paA)]):=by
      rw[List.getElem?_map,AuP _ _ _ hi];simp only[Option.map_some,nm,scA,Nat.zero_add,AuO i (by omega)]
     have hgd:List.getD (List.map scA (numL 0 (x::xs))) i .any=.agg [.str (AcX (i+1)),.int .i64 (x::xs)[i].place,.str (x::xs)[i].set,.int .i64 (x::xs)[i].time,.fz 2 ((x::xs)[i].paras.map paA)]:=by
      rw[List.getD_eq_getElem?_getD,hget]; rfl
     simp only[go_sem,hlast,hgd];have hset:=set_same hget;refine⟨by simp[numL_len],by omega,by omega,Nat.le_refl _,by simp[numL_len]; omega,by omega,by omega,?_⟩;rw[hset,show(i:Int)+1=((i+1:Nat):Int) by omega];refine ainv (hJ (i+1,k2+1) ⟨by simp only; omega,by simp only; omega,by simp only; omega⟩ (by simp only; omega)) (Shift.weak ?_);simp only[go_sem]
    .have di:decide ((i:Int)<((xs.length+1:Nat):Int))=false:=by simp; omega
     refine AWp.shift (Shift.frz 4 rfl (AaD _)) ?_;simp only[go_sem,srA,↓AfQ,↓AiK,frzE,frz,frz1,frzC,frzB,List.length_map,numL_len,Nat.le_refl];simp only[htake];refine zgF ?_;simp only[go_sem,di];exact AbB [.cell 2 28] rfl [_] ⟨by simp only[go_sem,sideIs,numR],trivial⟩ ⟨_,_,rfl,⟨⟨ti,x::xs⟩,k2,rfl,hx,rfl,by omega,by omega⟩,rfl,rfl⟩
def BtC(x:Sr):Prop:=∃ y,DrawnR y/\(x=y\/x=numR y)
theorem BdU:(TitleL.all fun t=>plainL t&&(decide (1<=t.length)&&decide (t.length<=60)))=true:=by decide +kernel
theorem BdV:(SetL.all fun t=>isSetL t&&decide (t.length<1000000))=true:=by decide +kernel
theorem AoU{x:Sc}(h:DrawnS x):SceneOk x:=by
 have:=List.all_eq_true.1 BdV x.set h.set;simp only[Bool.and_eq_true,decide_eq_true_eq]at this;exact⟨this.1,this.2,by have:=h.len; omega,h.run⟩
theorem A5C:∀ (l:List Sc),(∀ y∈l,y.paras.length<=60)->paraSum l<=60*l.length
 | [],_=>by simp[paraSum]
 | x::r,h=>by
  have h1:=h x (by simp);have h2:=A5C r (fun y hy=>h y (by simp[hy]));simp only[paraSum,List.map_cons,List.sum_cons,List.length_cons]at h2 |-;omega
theorem BdW:∀ (i:Nat)(l:List Sc),paraSum (numL i l)=paraSum l
 | _,[]=>rfl
 | i,x::r=>by
  have:=BdW (i+1) r;simp only[paraSum,numL,List.map_cons,List.sum_cons,nm]at this |-;omega
theorem A5D:∀ (l:List Sc)(acc:List (List UInt8))(first:Bool),(∀ y∈l,DrawnS y)->(first=true->∀ y,l.head? = some y->y.time≠5)->ArQ acc first l
 | [],_,_,_,_=>trivial
 | x::r,acc,first,h,h5=>by
  have hx:=h x (by simp);exact⟨.inl hx.no,hx.place,hx.time,fun hf=>h5 hf x rfl,AoU hx,A5D r _ false (fun y hy=>h y (by simp[hy])) (by simp)⟩
def accN(i:Nat):List (List UInt8):=(List.range i).map fun j=>AcX (j+1)
theorem A1Y:∀ i,i<5->AcX (i+1) ∉ accN i/\numberL (AcX (i+1))=true/\(AcX (i+1)).length<1000000:=by
 have h:∀ i:Fin 5,AcX (i.1+1) ∉ accN i.1/\numberL (AcX (i.1+1))=true/\(AcX (i.1+1)).length<1000000:=by decide +kernel
 exact fun i hi=>h ⟨i,hi⟩
theorem BmP:∀ (l:List Sc)(i:Nat),i+l.length<=5->(∀ y∈l,DrawnS y)->(i=0->∀ y,l.head? = some y->y.time≠5)->ArQ (accN i) (decide (i=0)) (numL i l)
 | [],_,_,_,_=>trivial
 | x::r,i,hl,h,h5=>by
  have hx:=h x (by simp);simp only[List.length_cons]at hl;have ha:=A1Y i (by omega);have hn:(nm i x).no=AcX (i+1):=AuO i (by omega);have hd:dd (accN i) (nm i x).no=accN (i+1):=by
   rw[hn,dd,if_neg ha.1]
   simp[accN,List.range_succ]
  refine⟨.inr ?_,hx.place,hx.time,fun hf=>h5 (by simpa using hf) x rfl,?_,?_⟩
  .rw [hn]; exact⟨ha.2.1,ha.2.2,ha.1⟩
  .have:=AoU hx
   exact⟨this.set,this.len,this.many,this.run⟩
  .rw [hd]
   have:=BmP r (i+1) (by omega) (fun y hy=>h y (by simp[hy])) (by simp)
   simpa using this
theorem BjQ{x:Sr}(h:BtC x):ScriptOk x:=by
 obtain⟨y,hy,hx⟩:=h;have ht:=List.all_eq_true.1 BdU y.title hy.title;simp only[Bool.and_eq_true,decide_eq_true_eq]at ht;have hl:=hy.len;have hs:=A5C y.scenes (fun z hz=>(hy.all z hz).len)
 rcases hx with rfl|rfl
 .exact ⟨ht.2,ht.1,by omega,by omega,A5D _ _ _ hy.all (fun _=>hy.first)⟩
 .refine ⟨ht.2,ht.1,by simp only[numR,numL_len]; omega,by simp only[numR,BdW]; omega,?_⟩
  exact BmP y.scenes 0 (by omega) hy.all (fun _=>hy.first)
def noS(w:List UInt8):Prop:=∀ b∈w,b≠32
def nbL(l:List UInt8):Prop:=l≠[]/\l.head?≠some 32
theorem BmQ{w:List UInt8}(h:noS w)(h0:w≠[]):nbL w:=by
 cases w with
 | nil=>exact(h0 rfl).elim
 | cons a r=>exact⟨by simp,by simpa using h a (by simp)⟩
theorem BdX{c:UInt8}(hc:c≠32):∀ {ws:List (List UInt8)},(∀ w∈ws,noS w)->∀ w∈AoM c ws,noS w
 | [],_,w,hw=>by
  have:w=[c]:=by simpa[AoM]using hw
  subst this;intro b hb;have:b=c:=by simpa using hb
  rw[this]; exact hc
 | a::r,h,w,hw=>by
  rcases(by simpa[AoM]using hw:w=c::a\/w∈r)with rfl|hw
  .intro b hb
   rcases List.mem_cons.1 hb with rfl|hb
   .exact hc
   .exact h a (by simp) b hb
  .exact h w (by simp[hw])
theorem AoV:∀ q:List UInt8,∀ w∈splitW q,noS w
 | [],w,hw=>by
  have:w=[]:=by simpa[splitW]using hw
  rw[this]; intro b hb; simp at hb
 | c::r,w,hw=>by
  simp only[splitW]at hw
  split at hw
  .rcases List.mem_cons.1 hw with rfl|hw
   .intro b hb; simp at hb
   .exact AoV r w hw
  .rename_i hc
   exact BdX (by simpa using hc) (AoV r) w hw
theorem A5E(W:Nat)(hW:0<W):∀ (n:Nat)(w:List UInt8),w.length<=n->noS w->(∀ l∈(chop W w).1,nbL l)/\noS (chop W w).2
 | 0,w,h,hn=>by rw[AdO (by omega)]; exact⟨by simp,hn⟩
 | n+1,w,h,hn=>by
  by_cases hc:W<w.length/\0<W
  .rw [AeC hc.1 hc.2]
   obtain⟨i1,i2⟩:=A5E W hW n (w.drop W) (by simp; omega) (fun b hb=>hn b (List.mem_of_mem_drop hb));refine⟨fun l hl=>?_,i2⟩
   rcases List.mem_cons.1 hl with rfl|hl
   .refine BmQ (fun b hb=>hn b (List.mem_of_mem_take hb)) fun e=>?_
    have:=congrArg List.length e;rw[List.length_take,List.length_nil]at this; omega
   .exact i1 l hl
  .rw [chop,dif_neg hc]
   exact⟨by simp,hn⟩
def wInv(s:List (List UInt8)×List UInt8):Prop:=(∀ l∈s.1,nbL l)/\(s.2≠[]->nbL s.2)
theorem BdY{W:Nat}(hW:0<W){s:List (List UInt8)×List UInt8}{w:List UInt8}(h:wInv s)(hw:noS w):wInv (wrapS W s w):=by
 unfold wrapS
 split
 .exact h
 .rename_i hw0
  split
  .rename_i hc
   simp only[Bool.and_eq_true,bne_iff_ne,ne_eq]at hc;refine⟨h.1,fun _=>?_⟩;obtain⟨h1,h2⟩:=h.2 hc.1;simp only at h2 |-
   cases hq:s.2 with
   | nil=>exact(hc.1 hq).elim
   | cons a r=>rw[hq]at h2; exact⟨by simp,by simpa using h2⟩
  .obtain ⟨i1,i2⟩:=A5E W hW w.length w (Nat.le_refl _) hw
   refine⟨fun l hl=>?_,fun h0=>BmQ i2 h0⟩;simp only at hl
   rcases List.mem_append.1 hl with hl|hl
   .split at hl
    .rename_i h0
     rcases List.mem_append.1 hl with hl|hl
     .exact h.1 l hl
     .rw [List.mem_singleton.1 hl]
      exact h.2 (by simpa using h0)
    .exact h.1 l hl
   .exact i1 l hl
theorem AjM{α β:Type}{f:α->β->α}{P:α->Prop}{Q:β->Prop}(hf:∀ s x,P s->Q x->P (f s x)):∀ (l:List β)(s:α),P s->(∀ x∈l,Q x)->P (l.foldl f s)
 | [],s,h,_=>h
 | x::r,s,h,hq=>AjM hf r (f s x) (hf s x h (hq x (by simp))) (fun y hy=>hq y (by simp[hy]))
theorem AoW{W:Nat}(hW:0<W)(t:List UInt8):∀ l∈AbH W t,nbL l:=by
 have h:wInv (wrapF W t):=AjM (P:=wInv) (Q:=noS) (fun s x h1 h2=>BdY hW h1 h2) _ _ ⟨by simp,by simp⟩ (AoV t);intro l hl;unfold AbH at hl
 split at hl
 .rename_i h0
  rcases List.mem_append.1 hl with hl|hl
  .exact h.1 l hl
  .rw [List.mem_singleton.1 hl]
   exact h.2 (by simpa using h0)
 .exact h.1 l hl
theorem AyD{n:Nat}(hn:n<20){l:List UInt8}(h:nbL l):OwnLn (indent n l):=by
 have hp:Lib.hasPrefix (indent n l) AdP=false:=by
  cases hq:Lib.hasPrefix (indent n l) AdP with
  | false=>rfl
  | true =>
   exfalso
   obtain⟨t,ht⟩:=List.isPrefixOf_iff_prefix.1 hq;have hb:AdP=Lib.repeatL [32] n++Lib.repeatL [32] (20-n):=by
    have:∀ k:Fin 20,AdP=Lib.repeatL [32] k.1++Lib.repeatL [32] (20-k.1):=by decide +kernel
    exact this ⟨n,hn⟩
   rw[hb,indent,List.append_assoc]at ht;have ht:=List.append_cancel_left ht;have h0:Lib.repeatL [32] (20-n)=32::(Lib.repeatL [32] (20-n)).tail:=by
    have:∀ k:Fin 20,Lib.repeatL [32] (20-k.1)=32::(Lib.repeatL [32] (20-k.1)).tail:=by decide +kernel
    exact this ⟨n,hn⟩
   rw[h0]at ht;rw[<- ht]at h;exact h.2 rfl
 refine⟨fun e=>?_,by rw[hp,Bool.and_false]⟩;rw[e]at hp
 revert hp
 decide +kernel
theorem BdZ{l:List UInt8}(h:nbL l):OwnLn l:=by
 have:=AyD (n:=0) (by omega) h;have e:indent 0 l=l:=rfl
 rwa [e]at this
def ownLnB(l:List UInt8):Bool:=l != AcD&&!(Lib.hasSuffix l A1W&&Lib.hasPrefix l AdP)
theorem AyE{l:List UInt8}(h:ownLnB l=true):OwnLn l:=by
 simp only[ownLnB,Bool.and_eq_true,bne_iff_ne,ne_eq,Bool.not_eq_true']at h;exact⟨h.1,h.2⟩
theorem BpW:(NameL.all fun t=>ownLnB (indent 20 t))=true:=by decide +kernel
theorem BjR:(TurnL.all fun t=>ownLnB (turnLine t))=true:=by decide +kernel
structure BlOk(b:Bl):Prop where
 own:∀ l∈b.lines,OwnLn l
 kinds:b.kind=3->b.kinds.length=b.lines.length
theorem BeA{b:Bl}(h:BlOk b)(kd:Int){n:Nat}(hn:n<20){ls:List (List UInt8)}(hl:∀ l∈ls,nbL l):BlOk (addB b kd n ls):=by
 refine⟨fun l hq=>?_,fun hk=>?_⟩
 .simp only [addB]at hq
  rcases List.mem_append.1 hq with hq|hq
  .exact h.own l hq
  .obtain ⟨m,hm,rfl⟩:=List.mem_map.1 hq
   exact AyD hn (hl m hm)
 .simp only [addB,List.length_append,List.length_replicate,List.length_map]at hk |-
  rw[h.kinds hk]
def BeB(p:Pa):Prop:=p.kind=5->p.text∈TurnL
theorem BpX{p:Pa}(h2:p.kind=2->p.text∈NameL)(h5:BeB p)(hj:joins p=false)(hk:1<=p.kind/\p.kind<=5):BlOk (newB p):=by
 unfold newB
 split
 .exact ⟨fun l hl=>BdZ (AoW (by omega) _ l hl),fun e=>by simp at e⟩
 .rename_i h1
  split
  .rename_i h5'
   refine⟨fun l hl=>?_,fun e=>by simp at e⟩;rw[List.mem_singleton.1 hl];exact AyE (List.all_eq_true.1 BjR _ (h5 (by simpa using h5')))
  .rename_i h5'
   refine⟨fun l hl=>?_,fun _=>rfl⟩;rw[List.mem_singleton.1 hl];have hk2:p.kind=2:=by
    simp only[joins,Bool.or_eq_false_iff,beq_eq_false_iff_ne]at hj
    simp at h1 h5'
    omega
   exact AyE (List.all_eq_true.1 BpW _ (h2 hk2))
theorem BjS{b:Bl}(h:BlOk b)(p:Pa):BlOk (moreB b p):=by
 unfold moreB
 split
 .exact BeA h 1 (by omega) (AoW (by omega) _)
 .exact BeA h 2 (by omega) (AoW (by omega) _)
def bInv(s:List Bl×Bl):Prop:=(∀ b∈s.1,BlOk b)/\BlOk s.2
theorem BeC{x:Sc}(h:∀ p∈x.paras,(p.kind=2->p.text∈NameL)/\BeB p/\1<=p.kind/\p.kind<=5):∀ b∈blocksL x,BlOk b:=by
 have h0:BlOk ⟨0,AbH 60 (headL x),[],[]⟩:=⟨fun l hl=>BdZ (AoW (by omega) _ l hl),fun e=>by simp at e⟩;have hi:bInv (blocksS x):=AjM (P:=bInv) (Q:=fun p=>(p.kind=2->p.text∈NameL)/\BeB p/\1<=p.kind/\p.kind<=5) (fun s p h1 h2=>by
  unfold bstep
  split
  .exact ⟨h1.1,BjS h1.2 p⟩
  .rename_i hj
   refine⟨fun b hb=>?_,BpX h2.1 h2.2.1 (by simpa using hj) h2.2.2⟩
   rcases List.mem_append.1 hb with hb|hb
   .exact h1.1 b hb
   .rw [List.mem_singleton.1 hb]; exact h1.2) _ _ ⟨by simp,h0⟩ h
 intro b hb;unfold blocksL at hb
 rcases List.mem_append.1 hb with hb|hb
 .exact hi.1 b hb
 .rw [List.mem_singleton.1 hb]; exact hi.2
