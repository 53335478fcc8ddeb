/- script.Check of right scripts. -/
import Derived.Test.YtmhjbljckkgeoaaGreatDoorC16
import Derived.Shelf.Strings.OnBuilder
import Derived.Shelf.Strings.Fields
set_option maxRecDepth 100000
set_option maxHeartbeats 4000000
set_option linter.all false
namespace Go.Proofs.YtmhjbljckkgeoaaGreatDoor
open Av RowKit Proofs.Tryz
def seenM(ks:List LU):List (AV×AV):=ks.map fun k=>(.str k,.bool true)
theorem mfind_out{k:LU}:∀ {ks:List LU}{n:Nat},k ∉ ks->mfind .string (.str k) (seenM ks) n=some none
 | [],n,_=>rfl
 | a::r,n,h=>by
  simp at h
  have:(k==a)=false:=by simpa using h.1
  simp only[seenM,lak,mfind,keyEq,this];exact mfind_out h.2
theorem AmD{k:LU}:∀ {ks:List LU}{n:Nat},k∈ks->∃ i,mfind .string (.str k) (seenM ks) n=some (some (n+i,.bool true))/\ks[i]? = some k
 | [],n,h=>by grind
 | a::r,n,h=>by
  by_cases e:k=a
  .subst e
   exact⟨0,by grind[seenM,mfind,keyEq],rfl⟩
  .obtain ⟨i,h1,h2⟩:=AmD (n:=n+1) ((List.mem_cons.1 h).resolve_left e)
   refine⟨i+1,?_,by simpa using h2⟩<;>grind[seenM,mfind,keyEq]
def dd(acc:List LU)(k:LU):List LU:=if k∈acc then acc else acc++[k]
def AqR:List LU->Bool->List Sc->Prop
 | _,_,[]=>True
 | acc,first,x::r=>(x.no=[]\/(numberL x.no=true/\x.no.length<1000000/\x.no ∉ acc))/\(1<=x.place/\x.place<=3)/\(1<=x.time/\x.time<=5)/\(first=true->x.time≠5)/\SceneOk x/\AqR (dd acc x.no) false r
def paraSum(l:List Sc):Nat:=(l.map fun x=>x.Ld.length).sum
structure ScriptOk(x:Sr):Prop where
 Lk:1<=x.Lk.length/\x.Lk.length<=60
 plain:plainL x.Lk=true
 len:x.Lc.length<=300
 many:paraSum x.Lc<=4000
 ok:AqR [] true x.Lc
theorem AlI(l:List Sc)(i:Nat)(h:i<l.length):paraSum (l.take (i+1))=paraSum (l.take i)+l[i].Ld.length:=by
 grind[paraSum,List.take_add_one]
theorem AfZ(l:List Sc)(i:Nat):paraSum (l.take i)<=paraSum l:=by
 grind[paraSum,lbd]
theorem AeO(n:Nat)(ks:List LU):lowB n (.mp (seenM ks))=true:=by
 show(seenM ks).all _=true
 rw[List.all_eq_true];intro x hx;simp only[seenM,List.mem_map]at hx;obtain⟨y,_,rfl⟩:=hx;rfl
theorem BbX{k:LU}{ks:List LU}:(∃ i v,mfind .string (.str k) (seenM ks) 0=some (some (i,v))/\(seenM ks).set i (.str k,.bool true)=seenM (dd ks k)) \/
  (mfind .string (.str k) (seenM ks) 0=some none/\seenM ks++[(.str k,.bool true)]=seenM (dd ks k)):=by
 by_cases h:k∈ks
 .left
  obtain⟨i,h1,h2⟩:=AmD h;refine⟨0+i,_,h1,?_⟩;have:(seenM ks)[i]? = some (.str k,.bool true):=by grind[seenM]
  have hs:(seenM ks).set i (.str k,.bool true)=seenM ks:=by
   apply lbo
   grind
  grind[dd]
 grind[mfind_out,dd,seenM]
theorem BbY{S:Std}(hS:LibOk S)(x:Sr)(hx:ScriptOk x):PcH prog S 25 [srA x] (· = .int .i64 0):=by
 obtain⟨ti,xs⟩:=x;have t1:=hx.Lk;have t2:=hx.plain;have t3:=hx.len;have t4:=hx.many;have t5:=hx.ok;simp only at t1 t2 t3 t4 t5;have d1:decide ((ti.length:Int)<1)=false:=by simp; omega
 have d2:decide ((ti.length:Int)>60)=false:=by simp; omega
 simp only[srA];refine zqIN func25 rfl fun h ρ w hg=>?_
 simp only[go_sem,d1,d2];refine zqN hg (AcQ hS ti (by omega)) ?_;rw[t2];simp only[go_sem];refine AaC (ι:=Nat) (fun i=>xs.length-i)
  (fun i=>[(29,.int .i64 i),(28,.int .i64 xs.length),(27,.fz 5 (xs.map scA)),(3,.int .i64 (paraSum (xs.take i))),(1,.ptr 0 1 0 0)])
  (fun _=>[.arr 2 [.agg [.str ti,.fz 5 (xs.map scA)]]]) (fun i=>i<=xs.length) 0 (by simp) ?_ ?_
 .refine Ls ?_
  simp only[go_sem,laa]
  simp[paraSum]
 .intro i g1 J hJ
  by_cases gi:i<xs.length
  .have di:decide ((i:Int)<(xs.length:Int))=true:=by simp; omega
   have hg':List.getD (List.map scA xs) i .any=.agg [.str xs[i].no,.int .i64 xs[i].place,.str xs[i].set,.int .i64 xs[i].time,.fz 2 (xs[i].Ld.map paA)]:=by simp[List.getD,gi,scA]
   have hs:=AlI xs i gi;have hle:=AfZ xs (i+1);apply zgN;simp only[go_sem,di,hg',laa]
   repeat refine And.intro (by first|omega|simpa using gi) ?_
   rw[show(paraSum (xs.take i):Int)+(xs[i].Ld.length:Int)=(paraSum (xs.take (i+1)):Int) by omega,show(i:Int)+1=((i+1:Nat):Int) by omega];refine ainv (hJ (i+1) (by omega) (by omega)) (Shift.low 1 (by simp) (by simp) ?_ ?_)
   .simp only[go_sem,lowB,flat]
   .simp only [go_sem]
  .have di:decide ((i:Int)<(xs.length:Int))=false:=by simp; omega
   have:i=xs.length:=by omega
   subst this;rw[lap];have d3:decide ((xs.length:Int)>300)=false:=by simp; omega
   have d4:decide ((paraSum xs:Int)>4000)=false:=by simp; omega
   apply zgN;simp only[go_sem,di,d3,d4,laa];refine AaC (ι:=Nat×List LU) (fun y=>xs.length-y.1)
    (fun y=>[(51,.int .i64 y.1),(50,.int .i64 xs.length),(49,.fz 5 (xs.map scA)),(6,.mp 1),(1,.ptr 0 1 0 0)])
    (fun y=>[.arr 2 [.agg [.str ti,.fz 5 (xs.map scA)]],.mp (seenM y.2)]) (fun y=>y.1<=xs.length/\AqR y.2 (decide (y.1=0)) (xs.drop y.1)) (0,[]) ⟨by simp,t5⟩ ?_ ?_
   .refine Ls ?_
    simp only[go_sem]
   .clear hJ J
    rintro⟨i,acc⟩ ⟨g1,g2⟩ J hJ;simp only at g1 g2 hJ |-
    by_cases gi:i<xs.length
    .have di:decide ((i:Int)<(xs.length:Int))=true:=by simp; omega
     have hg':List.getD (List.map scA xs) i .any=.agg [.str xs[i].no,.int .i64 xs[i].place,.str xs[i].set,.int .i64 xs[i].time,.fz 2 (xs[i].Ld.map paA)]:=by simp[List.getD,gi,scA]
     have hd:xs.drop i=xs[i]::xs.drop (i+1):=lbl gi;rw[hd]at g2;obtain⟨c1,c2,c3,c4,c5,c6⟩:=g2;have e1:decide (xs[i].place<1)=false:=by simp; omega
     have e2:decide (xs[i].place>3)=false:=by simp; omega
     have e3:decide (xs[i].time<1)=false:=by simp; omega
     have e4:decide (xs[i].time>5)=false:=by simp; omega
     have e5:((i:Int)==0)=false\/((i:Int)==0)=true/\(xs[i].time==5)=false:=by
      by_cases h0:i=0
      .exact .inr ⟨by simp[h0],by simpa using c4 (by simp[h0])⟩
      .exact .inl (by simp; omega)
     have hsf:=ApY hS xs[i] c5;simp only[scA]at hsf;have nx:decide (i+1=0)=false:=by simp
     generalize hsc:xs[i]=sc at *;have fin:_:=fun h=>hJ (i+1,dd acc sc.no) ⟨by simp only; omega,by simp only; rw[nx]; exact c6⟩ h
     rcases c1 with h0|⟨n1,n2,n3⟩
     .have q0:(sc.no != [])=false:=by simp[h0]
      rcases e5 with e5|⟨e5,e6⟩
      .rcases @BbX sc.no acc with⟨j,v,m1,m2⟩|⟨m1,m2⟩
       .apply zgN
        simp only[go_sem,di,hg',q0,e1,e2,e3,e4,e5,m1,m2]
        repeat refine And.intro (by first|omega|simpa using gi) ?_
        refine zqN hg (hsf) ?_;simp only[go_sem];refine⟨by omega,by omega,?_⟩;rw[ic i];refine ainv (fin (by simp only; omega)) (Shift.low 2 (by simp) (by simp) ?_ ?_)
        .simp only[go_sem,lowB,flat,↓AeO]
        .simp only [go_sem]
       .apply zgN
        simp only[go_sem,di,hg',q0,e1,e2,e3,e4,e5,m1,m2]
        repeat refine And.intro (by first|omega|simpa using gi) ?_
        refine zqN hg (hsf) ?_;simp only[go_sem];refine⟨by omega,by omega,?_⟩;rw[ic i];refine ainv (fin (by simp only; omega)) (Shift.low 2 (by simp) (by simp) ?_ ?_)
        .simp only[go_sem,lowB,flat,↓AeO]
        .simp only [go_sem]
      .rcases @BbX sc.no acc with⟨j,v,m1,m2⟩|⟨m1,m2⟩
       .apply zgN
        simp only[go_sem,di,hg',q0,e1,e2,e3,e4,e5,e6,m1,m2]
        repeat refine And.intro (by first|omega|simpa using gi) ?_
        refine zqN hg (hsf) ?_;simp only[go_sem];refine⟨by omega,by omega,?_⟩;rw[ic i];refine ainv (fin (by simp only; omega)) (Shift.low 2 (by simp) (by simp) ?_ ?_)
        .simp only[go_sem,lowB,flat,↓AeO]
        .simp only [go_sem]
       .apply zgN
        simp only[go_sem,di,hg',q0,e1,e2,e3,e4,e5,e6,m1,m2]
        repeat refine And.intro (by first|omega|simpa using gi) ?_
        refine zqN hg (hsf) ?_;simp only[go_sem];refine⟨by omega,by omega,?_⟩;rw[ic i];refine ainv (fin (by simp only; omega)) (Shift.low 2 (by simp) (by simp) ?_ ?_)
        .simp only[go_sem,lowB,flat,↓AeO]
        .simp only [go_sem]
     .by_cases h0:sc.no=[]
      .rw [h0]at n1
       exact absurd n1 (by decide)
      have q0:(sc.no != [])=true:=by simp[h0]
      have m1:=@mfind_out sc.no acc 0 n3;have m2:seenM acc++[(.str sc.no,.bool true)]=seenM (dd acc sc.no):=by simp[dd,n3,seenM]
      rcases e5 with e5|⟨e5,e6⟩
      .apply zgN
       simp only[go_sem,di,hg',q0,e1,e2,e3,e4,e5,m1,m2]
       repeat refine And.intro (by first|omega|simpa using gi) ?_
       refine zpN (AcL sc.no n2) ?_;rw[n1];simp only[go_sem,di,hg',q0,e1,e2,e3,e4,e5,m1,m2]
       repeat refine And.intro (by first|omega|simpa using gi) ?_
       refine zqN hg (hsf) ?_;simp only[go_sem];refine⟨by omega,by omega,?_⟩;rw[ic i];refine ainv (fin (by simp only; omega)) (Shift.low 2 (by simp) (by simp) ?_ ?_)
       .simp only[go_sem,lowB,flat,↓AeO]
       .simp only [go_sem]
      .apply zgN
       simp only[go_sem,di,hg',q0,e1,e2,e3,e4,e5,e6,m1,m2]
       repeat refine And.intro (by first|omega|simpa using gi) ?_
       refine zpN (AcL sc.no n2) ?_;rw[n1];simp only[go_sem,di,hg',q0,e1,e2,e3,e4,e5,e6,m1,m2]
       repeat refine And.intro (by first|omega|simpa using gi) ?_
       refine zqN hg (hsf) ?_;simp only[go_sem];refine⟨by omega,by omega,?_⟩;rw[ic i];refine ainv (fin (by simp only; omega)) (Shift.low 2 (by simp) (by simp) ?_ ?_)
       .simp only[go_sem,lowB,flat,↓AeO]
       .simp only [go_sem]
    .have di:decide ((i:Int)<(xs.length:Int))=false:=by simp; omega
     apply zgN;simp only[go_sem,di];exact zt [2]
end Go.Proofs.YtmhjbljckkgeoaaGreatDoor
namespace Go.Proofs
open Shelf Proofs.Tryz
def Tryz.lays156_ren:Go.Shelf.Ren:=⟨fun|156=>210|165=>261|166=>139|169=>142|240=>202|241=>302|276=>260|277=>317|n=>n,fun|31=>31|9=>9|3=>3|4=>4|0=>0|20=>20|72=>179|76=>120|70=>176|37=>177|75=>119|127=>229|164=>275|5=>5|80=>96|n=>n,fun|n=>n⟩
theorem Tryz.lays156:Go.Proofs.Lays.n156 prog Tryz.lays156_ren:=by constructor <;> intros <;> kernel_rfl
def Tryz.lays157_ren:Go.Shelf.Ren:=⟨fun|157=>211|229=>262|199=>263|261=>303|311=>318|312=>319|n=>n,fun|9=>9|31=>31|3=>3|5=>5|4=>4|119=>278|0=>0|40=>280|152=>309|21=>21|154=>311|51=>257|141=>313|196=>332|193=>329|198=>335|49=>333|194=>330|201=>338|226=>341|46=>207|227=>342|n=>n,fun|0=>3|6=>4|n=>n⟩
theorem Tryz.lays157:Go.Proofs.Lays.n157 prog Tryz.lays157_ren:=by constructor <;> intros <;> kernel_rfl
theorem Tryz.Builder_Extra_156:Builder.Extra prog Tryz.lays156_ren:={
 sizeBuilder:=by kernel_rfl
 liesBuilder:=by kernel_rfl
 t5:=underlying5
 a5:=Tryz.isAgg5
 z5:=Tryz.sizeOf5
 v5:=Tryz.zeroValue5
 infoByte:=by kernel_rfl
 cellsByte:=by kernel_rfl
 sizeByte:=by kernel_rfl
 neB5:=by decide }
end Go.Proofs
namespace Go.Proofs.YtmhjbljckkgeoaaGreatDoor
open Av RowKit Proofs.Tryz
theorem h_str{h:Mem}{v:Value}{s:LU}(r:RV h Lf0 true v (.str s)):v=.string ⟨s.toArray⟩:=by cases r<;>grind
structure LibR(S:Std):Prop where
 ok:LibOk S
 spc:∃ t z,S 3=some (.cells (Lib.asciiSpaceTab.map fun z=>Value.int .u8 z).toArray t z)
theorem BkF{sep:LU}{m:Nat}:∀ {ls:List LU},(∀ x∈ls,x.length<=m)->(Lib.join ls sep).length<=ls.length*(m+sep.length)
 | [],_=>by simp[Lib.join]
 | x::r,h=>by
  rw[Lib.join_cons,lah];have h1:=h x (by simp);have h2:(Lib.joinTail sep r).length<=r.length*(m+sep.length):=by
   unfold Lib.joinTail
   induction r<;>grind[Nat.add_mul]
  grind[Nat.add_mul]
theorem AdO:∀ (s cur:LU),∀ x∈Lib.fieldsGo cur s,x.length<=cur.length+s.length
 | [],cur,x,hx=>by
  grind[Lib.fieldsGo]
 | b::l,cur,x,hx=>by
  simp only[Lib.fieldsGo]at hx
  split at hx
  .split at hx
   .have:=AdO l [] x hx
    grind
   .rcases List.mem_cons.1 hx with rfl|hx
    .simp
    .have:=AdO l [] x hx
     grind
  .have:=AdO l _ x hx
   grind
theorem BbZ:∀ (l:LU)(ws:Bool),Lib.cntF ws l<=l.length
 | [],_=>by simp[Lib.cntF]
 | b::l,ws=>by
  have:=BbZ l (Lib.isSp b);simp only[Lib.cntF,lal]
  split <;> omega
theorem AwL(s:LU):(Lib.fields s).length<=s.length/\∀ x∈Lib.fields s,x.length<=s.length:=by
 refine⟨by grind[Lib.fields_length,BbZ],fun x hx=>?_⟩;have:=AdO s [] x hx
 grind
theorem AqS{S:Std}(hS:LibR S)(s:LU)(hs:s.length<1000000)(ha:AeA s):PcH prog S 211 [.str s] (· = .fz 1 (strs (Lib.fields s))):=by
 refine ⟨hB211,fun h w vs' hg hm hv=>?_⟩;have:=AnH s h vs' hv;subst this;obtain ⟨t,z,hcell⟩:=hS.spc;have htab:Lib.TabIs prog w "strings.asciiSpace" .u8 Lib.asciiSpaceTab:=by
  have h1:prog.globalNamed "strings.asciiSpace" = some 3:=by kernel_rfl
  have h2:=hg _ _ hcell
  grind[Lib.TabIs,World.var?]
 refine(Any.strings_Fields Tryz.lays157 (by kernel_rfl) (by kernel_rfl) ⟨s.toArray⟩ w (show s.length<_ by omega) (AiT ha) htab).mono ?_;rintro e w' ⟨rfl,rfl⟩;generalize Lib.fields s=sl;have hval:(sl.map fun l=>Value.string ⟨l.toArray⟩)=sl.map sval:=rfl;rw[hval];have h1:∀ v∈sl.map sval,v.oneCell'=true:=by intro v hv; obtain⟨x,_,rfl⟩:=List.mem_map.1 hv; rfl
 have hmine:Mine h (fun _=>none) [] w:=⟨hm,fun id blk e=>by grind,fun _ _=>rfl,fun i j g t t' e=>by grind,fun i g t e=>by grind⟩;obtain⟨m2,l2⟩:=hmine.freezeNew (sl.map sval) 9 h1;refine⟨_,_,Mem.add h w.heap.size (sl.map sval),rfl,rfl,m2.mem,l2.hle,fun b o e n=>?_,.alloc w _,?_⟩
 .rcases l2.hnew b o e n with⟨j,t,hj⟩|hs<;>grind
 .have:=RV.fz (h:=Mem.add h w.heap.size (sl.map sval)) (Lf:=Lf0) (fl:=true) w.heap.size 0 sl.length 1 (strs sl) (sl.map sval) ?_ (by simp[cellsOf]) ?_ (by simp)
  .grind
  .rw [AmX]
   generalize Mem.add h w.heap.size (sl.map sval)=hh;generalize sl=z
   induction z with
   | nil=>exact .nil
   | cons x z ih=>exact .cons (.str x) ih
  grind[Mem.add]
theorem A4M{h:Mem}:∀ {l:List LU}{vs:List Value}{Lf:Value->AV->Prop},RL h Lf true vs (strs l)->vs=l.map sval
 | [],_,_,r=>by cases r; rfl
 | x::l,_,_,r=>by
  cases r with
  | cons r1 r2 =>
   rw[A4M r2]
   cases r1 with
   | str=>rfl
theorem BkG(ls:List LU)(sep:LU)(h1:ls.length<=1000000)(h2:(Lib.join ls sep).length<=140737488355328):Pc prog 210 [.fz 1 (strs ls),.str sep] (· = .str (Lib.join ls sep)):=by
 refine⟨hB210,fun h w vs' hm hv=>?_⟩
 cases hv with
 | cons r1 r=>cases r with
  | cons r2 r =>
   cases r
   rw[h_str r2];have hfin:∀ (u:Value),Calls prog 210 #[u,.string ⟨sep.toArray⟩] w (fun e w'=>e=.returned (.string ⟨(Lib.join ls sep).toArray⟩)/\Below w.heap.size w w')->Calls prog 210 [u,.string ⟨sep.toArray⟩].toArray w fun en w'=>∃ v r h',en=.returned v/\r=.str (Lib.join ls sep)/\(∀ b o v,h' b o=some v->w'.cell? ⟨b,o,none⟩=some v/\v.oneCell'=true)/\(∀ b o v,h b o=some v->h' b o=some v)/\(∀ b o,h b o=none->h' b o≠none->w.heap.size<=b)/\Same w w'/\RV h' Lf0 true v r:=fun u hc=>by
    refine hc.mono ?_;rintro e w' ⟨rfl,hs⟩;have hs:Same w w':=⟨hs.os,hs.tape,⟨hs.output,trivial⟩,hs.size,hs.block⟩;exact⟨_,_,h,rfl,rfl,fun b o v e=>⟨hs.cell (hm b o v e).1,(hm b o v e).2⟩,fun _ _ _ x=>x,fun b o e n=>(n e).elim,hs,.str _⟩
   rcases AhK (ρ:=fun _=>none) (sto:=[]) (r1.thaw (fun _ _ _ x=>x) (fl:=false))with⟨hl,hu⟩|⟨b,o,c,vs,hu,q1,q2,q3,q4⟩
   .have hl:ls=[]:=by simp_all
    subst hl hu;exact hfin _ ((Any.strings_Join_none Tryz.lays156 Tryz.Builder_Extra_156 none 0 ⟨sep.toArray⟩ w).mono fun e w' ⟨he,hw⟩=>⟨he,hw▸Below.refl _ _⟩)
   .subst hu
    rw[AmX]at q1;have hvs:=A4M q1;rw[laa]at q4 |-
    cases hls:ls with
    | nil =>
     rw[<- hls];have hz:ls.length=0:=by grind
     rw[hz];refine hfin _ ?_;rw[hls];exact(Any.strings_Join_none Tryz.lays156 Tryz.Builder_Extra_156 (some ⟨b,o,none⟩) c ⟨sep.toArray⟩ w).mono fun e w' ⟨he,hw⟩=>⟨he,hw▸Below.refl _ _⟩
    | cons x r =>
     rw[<- hls];have hcell:∀ (j:Nat) (y:LU),ls[j]? = some y->w.cell? ⟨b,o+j,none⟩=some (sval y):=fun j y hy=>(hm _ _ _ (q3 j (sval y) (by grind))).1
     have hb:=World.block_lt_of_cell? w _ (hcell 0 x (by grind));have hdl:(ls.map fun s=>(⟨s.toArray⟩:ByteArray)).map (·.data.toList)=ls:=by
      rw[lbb];exact List.map_id ls
     refine hfin _ ?_;have hj:=Any.strings_Join Tryz.lays156 Tryz.Builder_Extra_156 b o c (ls.map fun s=>⟨s.toArray⟩) ⟨sep.toArray⟩ w (fun j y hy=>by
      grind) hb (by grind) (by grind) (by grind)
     rw[hdl,laa]at hj;exact hj
def okR(c:UInt8):Bool:=!decide ((c.toNat:Int)<32)&&!decide ((c.toNat:Int)>126)
def plainR(s:LU):Bool:=s.all okR&&(Lib.join (Lib.fields s) [32]==s)
theorem AgZ{S:Std}(hS:LibR S)(s:LU)(hs:s.length<1000000):PcH prog S 150 [.str s] (· = .bool (plainR s)):=by
 refine zqIB func150 rfl fun h ρ w hg=>?_
 simp only[go_sem];refine AaC (ι:=Nat) (fun i=>s.length-i) (fun i=>[(3,.int .i64 i),(0,.str s)]) (fun _=>[]) (fun i=>i<=s.length/\(s.take i).all okR=true) 0 ⟨by omega,by simp⟩ ?_ ?_
 .refine Ls ?_
  simp only[go_sem]
 .rintro i ⟨g1,g2⟩ J hJ
  by_cases gi:i<s.length
  .have di:decide ((i:Int)<(s.length:Int))=true:=by simp; omega
   have hx:s.getD i 0=s[i]:=by simp[List.getD,gi]
   have bad:okR s[i]=false->plainR s=false:=fun h=>by simp only[plainR,all_false_at gi h,lce]
   have again:okR s[i]=true->(s.take (i+1)).all okR=true:=fun h=>AaK gi g2 h
   unfold okR at bad again;apply zgB
   cases d1:decide ((s[i].toNat:Int)<32)with
   | true =>
    simp only[go_sem,di,hx,d1]
    repeat refine aqa ?_
    exact aret [2] rfl ⟨by rw[bad (by rw[d1]; rfl)]; rfl,rfl⟩
   | false =>
    cases d2:decide ((s[i].toNat:Int)>126)with
    | true =>
     simp only[go_sem,di,hx,d1,d2]
     repeat refine aqa ?_
     exact aret [2] rfl ⟨by rw[bad (by rw[d1,d2]; rfl)]; rfl,rfl⟩
    | false =>
     simp only[go_sem,di,hx,d1,d2]
     repeat refine aqa ?_
     rw[ic i];refine ainv (hJ (i+1) ⟨by omega,again (by rw[d1,d2]; rfl)⟩ (by omega)) (Ls ?_);simp only[go_sem]
  .have di:decide ((i:Int)<(s.length:Int))=false:=by simp; omega
   have hi:i=s.length:=by omega
   rw[hi,lap]at g2;have hasc:AeA s:=fun b hb=>by
    have:=List.all_eq_true.1 g2 b hb;simp only[okR,lag,lcb,lai]at this;omega
   have hf:=AqS hS s hs hasc;obtain⟨b1,b2⟩:=AwL s;have hjl:=BkF (sep:=[32]) (m:=s.length) b2;have hj:=BkG (Lib.fields s) [32] (by omega) (Nat.le_trans hjl (Nat.le_trans (Nat.mul_le_mul (n₁:=(Lib.fields s).length) (n₂:=1000000) (m₁:=s.length+[32].length) (m₂:=1000001) (by omega) (by simp only[lal,laq]; omega)) (by decide)));apply zgB;simp only[go_sem,di];refine zqB hg (hf) ?_;simp only[go_sem];refine zpB (hj) ?_;simp only[go_sem];exact aret [2] rfl ⟨by simp only[resV,Av.get,Av.put,plainR,g2,laz,lbf,cond_true],rfl⟩
def AnI(s p:LU):Bool:=Lib.trimS s p==[]
theorem AiW(s p:LU)(hs:s.length<1000000)(hp:p.length<1000)(h2:AeA p):Pc prog 77 [.str s,.str p] (· = .bool (AnI s p)):=by
 have ht:=A0L s p (by omega) (by omega) h2;refine zpIB func77 rfl fun h ρ w=>?_
 simp only[go_sem];refine zpB (ht) ?_;simp only[go_sem];exact zt [4]
def longR(s:LU)(a b:Int):Bool:=decide ((s.length:Int)>=a)&&decide ((s.length:Int)<=b)
theorem AtA(s:LU)(a b:Int):Pc prog 76 [.str s,.int .i64 a,.int .i64 b] (· = .bool (longR s a b)):=by
 refine zpIB func76 rfl fun h ρ w=>?_
 cases d1:decide ((s.length:Int)>=a)with
 | true =>
  simp only[go_sem,d1];exact aret [6] rfl ⟨by simp[resV,Av.get,Av.put,longR,d1],rfl⟩
 | false =>
  simp only[go_sem,d1];exact aret [6] rfl ⟨by simp[resV,Av.get,Av.put,longR,d1],rfl⟩
def setSet:LU:=[65,66,67,68,69,70,71,72,73,74,75,76,77,78,79,80,81,82,83,84,85,86,87,88,89,90,48,49,50,51,52,53,54,55,56,57,32,39,46,45,47]
def nameSet:LU:=[65,66,67,68,69,70,71,72,73,74,75,76,77,78,79,80,81,82,83,84,85,86,87,88,89,90,48,49,50,51,52,53,54,55,56,57,32,39,46,45]
def AhZ:LU:=[65,66,67,68,69,70,71,72,73,74,75,76,77,78,79,80,81,82,83,84,85,86,87,88,89,90,32,46]
def nameR(s:LU):Bool:=longR s 1 30&&(plainR s&&(AnI s nameSet&&AnI (s.take 1) CAPS))
theorem BcA{S:Std}(hS:LibR S)(s:LU)(hs:s.length<1000000):PcH prog S 265 [.str s] (· = .bool (nameR s)):=by
 have h1:=AtA s 1 30;have h2:=AgZ hS s hs;have h3:=AiW s nameSet hs (by decide) (AbS (by decide));have h4:=AiW (s.take 1) CAPS (by simp; omega) (by decide) (AbS (by decide));simp only[nameSet,CAPS]at h3 h4;refine zqIB func265 rfl fun h ρ w hg=>?_
 simp only[go_sem];refine zpB (h1) ?_
 cases e1:longR s 1 30 with
 | false =>
  simp only[go_sem];exact aret [2] rfl ⟨by simp[resV,Av.get,Av.put,nameR,e1],rfl⟩
 | true =>
  have e0:decide ((1:Int)<=(s.length:Int))=true:=by simp[longR]at e1 |-; omega
  simp only[go_sem];refine zqB hg (h2) ?_
  cases e2:plainR s with
  | false =>
   simp only[go_sem];exact aret [2] rfl ⟨by simp[resV,Av.get,Av.put,nameR,e1,e2],rfl⟩
  | true =>
   simp only[go_sem];refine zpB (h3) ?_
   cases e3:AnI s nameSet with
   | false =>
    simp only[nameSet]at e3;rw[e3];simp only[go_sem];exact aret [2] rfl ⟨by simp[resV,Av.get,Av.put,nameR,e1,e2,nameSet,e3],rfl⟩
   | true =>
    have e3':=e3;simp only[nameSet]at e3;rw[e3];simp only[go_sem,e0];refine And.intro (by simp[longR]at e1; omega) ?_;refine zpB (h4) ?_;simp only[go_sem];exact aret [2] rfl ⟨by simp[resV,Av.get,Av.put,nameR,e1,e2,e3',CAPS],rfl⟩
def setR(s:LU):Bool:=longR s 1 60&&(plainR s&&(AnI s setSet&&(AnI (s.take 1) CAPS&&(!Lib.contains s [32,45,32]&&!Lib.hasSuffix s [32,45]))))
theorem BkH{S:Std}(hS:LibR S)(s:LU)(hs:s.length<1000000):PcH prog S 264 [.str s] (· = .bool (setR s)):=by
 have h1:=AtA s 1 60;have h2:=AgZ hS s hs;have h3:=AiW s setSet hs (by decide) (AbS (by decide));have h4:=AiW (s.take 1) CAPS (by simp; omega) (by decide) (AbS (by decide));have h5:=AfX hS.ok s [32,45,32] (by omega);have h6:=AbC s [32,45] (by omega);simp only[setSet,CAPS]at h3 h4;refine zqIB func264 rfl fun h ρ w hg=>?_
 simp only[go_sem];refine zpB (h1) ?_
 cases e1:longR s 1 60 with
 | false =>
  simp only[go_sem];exact aret [2] rfl ⟨by simp[resV,Av.get,Av.put,setR,e1],rfl⟩
 | true =>
  have e0:decide ((1:Int)<=(s.length:Int))=true:=by simp[longR]at e1 |-; omega
  simp only[go_sem];refine zqB hg (h2) ?_
  cases e2:plainR s with
  | false =>
   simp only[go_sem];exact aret [2] rfl ⟨by simp[resV,Av.get,Av.put,setR,e1,e2],rfl⟩
  | true =>
   simp only[go_sem];refine zpB (h3) ?_
   cases e3:AnI s setSet with
   | false =>
    simp only[setSet]at e3;rw[e3];simp only[go_sem];exact aret [2] rfl ⟨by simp[resV,Av.get,Av.put,setR,e1,e2,setSet,e3],rfl⟩
   | true =>
    have e3':=e3;simp only[setSet]at e3;rw[e3];simp only[go_sem,e0];refine And.intro (by simp[longR]at e1; omega) ?_;refine zpB (h4) ?_
    cases e4:AnI (s.take 1) CAPS with
    | false =>
     have e4':=e4;simp only[CAPS]at e4;rw[e4];simp only[go_sem];exact aret [2] rfl ⟨by simp[resV,Av.get,Av.put,setR,e1,e2,e3',e4'],rfl⟩
    | true =>
     have e4':=e4;simp only[CAPS]at e4;rw[e4];simp only[go_sem];refine zqB hg (h5) ?_
     cases e5:Lib.contains s [32,45,32]with
     | true =>
      simp only[go_sem];exact aret [2] rfl ⟨by simp[resV,Av.get,Av.put,setR,e1,e2,e3',e4',e5],rfl⟩
     | false =>
      simp only[go_sem];refine zpB (h6) ?_;simp only[go_sem];exact aret [2] rfl ⟨by simp[resV,Av.get,Av.put,setR,e1,e2,e3',e4',e5],rfl⟩
def BkI(p:Pa):Int:=if plainR p.text then(if p.kind==2&&!nameR p.text then 5 else if p.kind==5&&!AnI p.text AhZ then 3 else 0) else 3
theorem BcB{S:Std}(hS:LibR S)(p:Pa)(b:Int)(h:paraOk p=true)(hf:followsL p.kind b=true):PcH prog S 214 [paA p,.int .i64 b] (· = .int .i64 (BkI p)):=by
 obtain⟨k,s⟩:=p;simp only[paraOk,lag,laj,bne_iff_ne,ne_eq,lbi,lcb]at h;obtain⟨h1,h2,h3,h4,h5,h6,h7,h8⟩:=h;have e0:(s==[])=false:=by simpa using h3
 have hs:s.length<1000000:=by omega
 have d2:decide ((s.length:Int)>2000)=false:=by simp; omega
 have hasc:AeA s:=A3Y (by simp only[plainL,lag]at h4; exact h4.1);have c2:=AgZ hS s hs;have c3:=BcA hS s hs;have c4:=AiW s AhZ hs (by decide) (AbS (by decide));simp only[AhZ]at c4;unfold paA BkI;simp only at hf |-;have hk:k=1\/k=2\/k=3\/k=4\/k=5:=by omega
 unfold followsL at hf;refine zqIB func214 rfl fun h ρ w hg=>?_
 rcases hk with rfl|rfl|rfl|rfl|rfl
 .simp at hf
  have f2:(b==2)=false:=by simpa using hf.1
  have f3:(b==3)=false:=by simpa using hf.2
  simp only[go_sem,e0,d2];refine zqB hg (c2) ?_
  cases e2:plainR s with
  | false =>
   simp only[go_sem];exact zt [4]
  | true =>
   simp only[go_sem,e0,d2,f2,f3];exact zt [4]
 .simp at hf
  have f2:(b==2)=false:=by simpa using hf.1
  have f3:(b==3)=false:=by simpa using hf.2
  simp only[go_sem,e0,d2];refine zqB hg (c2) ?_
  cases e2:plainR s with
  | false =>
   simp only[go_sem];exact zt [4]
  | true =>
   simp only[go_sem,e0,d2,f2,f3];refine zqB hg (c3) ?_
   cases e3:nameR s with
   | false =>
    simp only[go_sem];exact zt [4]
   | true =>
    simp only[go_sem,e0,d2,f2,f3];exact zt [4]
 .have h7:=h7.resolve_left (by simp)
  have d3:decide ((s.length:Int)>200)=false:=by simp; omega
  simp at hf
  have hf':b=2\/b=4:=hf;simp only[go_sem,e0,d2,d3];refine zqB hg (c2) ?_
  cases e2:plainR s with
  | false =>
   simp only[go_sem];exact zt [4]
  | true =>
   simp only[go_sem,e0,d2,d3];refine zpB (AhL s [40,41] (by omega) (by decide) hasc (AbS rfl)) ?_;rw[h7.2]
   rcases hf' with rfl|rfl
   .simp only [go_sem]
    exact zt [4]
   .simp only [go_sem]
    exact zt [4]
 .simp at hf
  have hf':b=2\/b=3\/b=4:=by omega
  simp only[go_sem,e0,d2];refine zqB hg (c2) ?_
  cases e2:plainR s with
  | false =>
   simp only[go_sem];exact zt [4]
  | true =>
   rcases hf' with rfl|rfl|rfl <;>
   .simp only [go_sem,e0,d2]
    exact zt [4]
 .simp at hf
  have f2:(b==2)=false:=by simpa using hf.1
  have f3:(b==3)=false:=by simpa using hf.2
  have hl:=h8.resolve_left (by simp);have d4:decide ((s.length:Int)>40)=false:=by simp[isTurnL]at hl |-; omega
  simp only[go_sem,e0,d2];refine zqB hg (c2) ?_
  cases e2:plainR s with
  | false =>
   simp only[go_sem];exact zt [4]
  | true =>
   simp only[go_sem,e0,d2,f2,f3,d4];refine zpB (c4) ?_
   cases e3:AnI s AhZ with
   | false =>
    simp only[AhZ]at e3;rw[e3];simp only[go_sem];exact zt [4]
   | true =>
    simp only[AhZ]at e3;rw[e3];simp only[go_sem,e0,d2,f2,f3,d4];exact zt [4]
end Go.Proofs.YtmhjbljckkgeoaaGreatDoor
namespace Go.Proofs.YtmhjbljckkgeoaaGreatDoor
open Av RowKit ChangeShapes WideShapes ChangeAt Proofs.Tryz
theorem BkJ:Rows.laid_strings_asciiSpace=Lib.tabData (H:=Unit) .u8 Lib.asciiSpaceTab:=by kernel_rfl
theorem BrU{W:World}(h:W.ShapedOpen prog){laid:List (String×DataW Unit)}(hp:(laid.all fun x=>x.2.handleName?.isNone)=true)(hL:laidMetH prog laid W)
  (e1:laid.filter (fun x=>x.1 == "internal/strconv.uint64pow10")=[("internal/strconv.uint64pow10",Rows.laid_internal_strconv_uint64pow10)])
  (e2:laid.filter (fun x=>x.1 == "strconv.ErrSyntax")=[("strconv.ErrSyntax",Rows.laid_strconv_ErrSyntax)])
  (e3:laid.filter (fun x=>x.1 == "strings.asciiSpace")=[("strings.asciiSpace",Rows.laid_strings_asciiSpace)]):LibR (BbF W):=by
 refine ⟨BvS h hp hL e1 e2,?_⟩;rw [MakeChecks.laidMetH_plain _ _ _ hp] at hL;have h1:=hL.filter (fun x=>x.1 == "strings.asciiSpace");rw [e3,BkJ] at h1;have ht:=Lib.tabIs_of_head (g:=3) (t:=278) (e:=5) (n:=256) (by kernel_rfl) (by kernel_rfl) underlying278 underlying5 (by kernel_rfl) (by kernel_rfl) h1;exact AsL (by kernel_rfl) ht
