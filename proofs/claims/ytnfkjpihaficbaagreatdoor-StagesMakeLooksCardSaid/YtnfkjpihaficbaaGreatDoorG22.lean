/- script.Check of right scripts. Own work of this seat. -/
import Derived.Test.YtnfkjpihaficbaaGreatDoorG21
import Derived.Shelf.Strings.OnBuilder
import Derived.Shelf.Strings.Fields
set_option maxRecDepth 100000
set_option linter.unusedSimpArgs false
set_option linter.unusedVariables false
namespace Go.Proofs.YtnfkjpihaficbaaGreatDoor
open Go Go.Av Go.RowKit
def seenM (ks:List (List UInt8)):List (AV × AV):=ks.map fun k=>(.str k,.bool true)
theorem mfind_out {k:List UInt8}:∀ {ks:List (List UInt8)} {n:Nat},k ∉ ks→mfind .string (.str k) (seenM ks) n=some none
 | [],n,_=>rfl
 | a :: r,n,h=>by
  simp only [List.mem_cons,not_or] at h
  have:(k == a)=false:=by simpa using h.1
  simp only [seenM,List.map_cons,mfind,keyEq,this]
  exact mfind_out h.2
theorem mfind_in {k:List UInt8}:∀ {ks:List (List UInt8)} {n:Nat},k ∈ ks→∃ i,mfind .string (.str k) (seenM ks) n=some (some (n+i,.bool true))∧ks[i]? = some k
 | [],n,h=>by simp at h
 | a :: r,n,h=>by
  by_cases e:k=a
  ·subst e
   exact ⟨0,by simp [seenM,mfind,keyEq],rfl⟩
  ·have:(k == a)=false:=by simpa using e
   obtain ⟨i,h1,h2⟩:=mfind_in (n:=n+1) ((List.mem_cons.1 h).resolve_left e)
   refine ⟨i+1,?_,by simpa using h2⟩
   simp only [seenM,List.map_cons,mfind,keyEq,this]
   rw [show n+(i+1)=n+1+i by omega]
   exact h1
def dd (acc:List (List UInt8)) (k:List UInt8):List (List UInt8):=if k ∈ acc then acc else acc++[k]
def okFrom:List (List UInt8)→Bool→List Sc→Prop
 | _,_,[]=>True
 | acc,first,x :: r=>(x.no=[]∨(numberL x.no=true∧x.no.length < 1000000∧x.no ∉ acc))∧(1 ≤ x.place∧x.place ≤ 3)∧(1 ≤ x.time∧x.time ≤ 5)∧(first=true→x.time ≠ 5)∧SceneOk x∧okFrom (dd acc x.no) false r
def paraSum (l:List Sc):Nat:=(l.map fun x=>x.paras.length).sum
structure ScriptOk (x:Sr):Prop where
 title:1 ≤ x.title.length∧x.title.length ≤ 60
 plain:plainL x.title=true
 len:x.scenes.length ≤ 300
 many:paraSum x.scenes ≤ 4000
 ok:okFrom [] true x.scenes
theorem paraSum_take (l:List Sc) (i:Nat) (h:i < l.length):paraSum (l.take (i+1))=paraSum (l.take i)+l[i].paras.length:=by
 simp only [paraSum,List.take_add_one,List.map_append,List.sum_append]
 simp [h]
theorem paraSum_take_le (l:List Sc) (i:Nat):paraSum (l.take i) ≤ paraSum l:=by
 have:paraSum l=paraSum (l.take i)+paraSum (l.drop i):=by
  simp only [paraSum]
  rw [← List.sum_append,← List.map_append,List.take_append_drop]
 omega
theorem low_seen (n:Nat) (ks:List (List UInt8)):lowB n (.mp (seenM ks))=true:=by
 show (seenM ks).all _=true
 rw [List.all_eq_true]
 intro x hx
 simp only [seenM,List.mem_map] at hx
 obtain ⟨y,_,rfl⟩:=hx
 rfl
theorem seen_dd {k:List UInt8} {ks:List (List UInt8)}:(∃ i v,mfind .string (.str k) (seenM ks) 0=some (some (i,v))∧(seenM ks).set i (.str k,.bool true)=seenM (dd ks k)) ∨
  (mfind .string (.str k) (seenM ks) 0=some none∧seenM ks++[(.str k,.bool true)]=seenM (dd ks k)):=by
 by_cases h:k ∈ ks
 ·left
  obtain ⟨i,h1,h2⟩:=mfind_in (n:=0) h
  refine ⟨0+i,_,h1,?_⟩
  have:(seenM ks)[i]? = some (.str k,.bool true):=by simp [seenM,h2]
  rw [Nat.zero_add]
  have hs:(seenM ks).set i (.str k,.bool true)=seenM ks:=by
   apply List.ext_getElem?
   intro j
   rw [List.getElem?_set]
   split
   ·rename_i hj
    subst hj
    split
    ·exact this.symm
    ·rename_i hn
     rw [List.getElem?_eq_none (by omega)] at this
     cases this
   ·rfl
  rw [hs]
  simp [dd,h]
 ·right
  exact ⟨mfind_out h,by simp [dd,h,seenM]⟩
set_option maxHeartbeats 4000000 in
theorem check_pch {S:Std} (hS:LibOk S) (x:Sr) (hx:ScriptOk x):PcH Tryz.prog S 149 [srA x] (· = .int .i64 0):=by
 obtain ⟨ti,xs⟩:=x
 have t1:=hx.title
 have t2:=hx.plain
 have t3:=hx.len
 have t4:=hx.many
 have t5:=hx.ok
 simp only at t1 t2 t3 t4 t5
 have d1:decide ((ti.length:Int) < 1)=false:=by simp; omega
 have d2:decide ((ti.length:Int) > 60)=false:=by simp; omega
 simp only [srA]
 refine pch_intro (cth_intro Tryz.func149 rfl Tryz.ntmps149 hB149 (by simp) fun h ρ w hg=>go (N:=112) Tryz.ntmps149 300 ?_)
 simp only [go_sem,d1,d2]
 refine pcallH1 hg (plain_pch hS ti (by omega)) rfl (N:=112) Tryz.ntmps149 rfl (go (N:=112) Tryz.ntmps149 300 ?_)
 rw [t2]
 simp only [go_sem]
 refine aloop (ι:=Nat) (fun i=>xs.length - i)
  (fun i=>[(29,.int .i64 i),(28,.int .i64 xs.length),(27,.fz 5 (xs.map scA)),(3,.int .i64 (paraSum (xs.take i))),(1,.ptr 0 1 0 0)])
  (fun _=>[.arr 2 [.agg [.str ti,.fz 5 (xs.map scA)]]]) (fun i=>i ≤ xs.length) 0 (by simp) ?_ ?_
 ·refine Shift.weak ?_
  simp only [wk,go_sem,List.length_map]
  simp [paraSum]
 ·intro i g1 J hJ
  by_cases gi:i < xs.length
  ·have di:decide ((i:Int) < (xs.length:Int))=true:=by simp; omega
   have hg':List.getD (List.map scA xs) i .any=.agg [.str xs[i].no,.int .i64 xs[i].place,.str xs[i].set,.int .i64 xs[i].time,.fz 2 (xs[i].paras.map paA)]:=by simp [List.getD,gi,scA]
   have hs:=paraSum_take xs i gi
   have hle:=paraSum_take_le xs (i+1)
   refine go (N:=112) Tryz.ntmps149 300 ?_
   simp only [go_sem,di,hg',List.length_map]
   repeat refine And.intro (by first | omega | simpa using gi) ?_
   rw [show (paraSum (xs.take i):Int)+(xs[i].paras.length:Int)=(paraSum (xs.take (i+1)):Int) by omega,show (i:Int)+1=((i+1:Nat):Int) by omega]
   refine ainv (hJ (i+1) (by omega) (by omega)) (Shift.low 1 (by simp) (by simp) ?_ ?_)
   ·simp only [List.take_succ_cons,List.take_zero,List.all_cons,List.all_nil,lowB,flat,cellsOf,lowC,Av.frozen,List.append_nil,Bool.and_self]
   ·simp only [wkl,lowV,lowC,Av.get,go_sem]
  ·have di:decide ((i:Int) < (xs.length:Int))=false:=by simp; omega
   have:i=xs.length:=by omega
   subst this
   rw [List.take_length]
   have d3:decide ((xs.length:Int) > 300)=false:=by simp; omega
   have d4:decide ((paraSum xs:Int) > 4000)=false:=by simp; omega
   refine go (N:=112) Tryz.ntmps149 300 ?_
   simp only [go_sem,di,d3,d4,List.length_map]
   refine aloop (ι:=Nat × List (List UInt8)) (fun y=>xs.length - y.1)
    (fun y=>[(51,.int .i64 y.1),(50,.int .i64 xs.length),(49,.fz 5 (xs.map scA)),(6,.mp 1),(1,.ptr 0 1 0 0)])
    (fun y=>[.arr 2 [.agg [.str ti,.fz 5 (xs.map scA)]],.mp (seenM y.2)]) (fun y=>y.1 ≤ xs.length∧okFrom y.2 (decide (y.1=0)) (xs.drop y.1)) (0,[]) ⟨by simp,t5⟩ ?_ ?_
   ·refine Shift.weak ?_
    simp only [wk,go_sem]
   ·clear hJ J
    rintro ⟨i,acc⟩ ⟨g1,g2⟩ J hJ
    simp only at g1 g2 hJ ⊢
    by_cases gi:i < xs.length
    ·have di:decide ((i:Int) < (xs.length:Int))=true:=by simp; omega
     have hg':List.getD (List.map scA xs) i .any=.agg [.str xs[i].no,.int .i64 xs[i].place,.str xs[i].set,.int .i64 xs[i].time,.fz 2 (xs[i].paras.map paA)]:=by simp [List.getD,gi,scA]
     have hd:xs.drop i=xs[i] :: xs.drop (i+1):=List.drop_eq_getElem_cons gi
     rw [hd] at g2
     obtain ⟨c1,c2,c3,c4,c5,c6⟩:=g2
     have e1:decide (xs[i].place < 1)=false:=by simp; omega
     have e2:decide (xs[i].place > 3)=false:=by simp; omega
     have e3:decide (xs[i].time < 1)=false:=by simp; omega
     have e4:decide (xs[i].time > 5)=false:=by simp; omega
     have e5:((i:Int) == 0)=false∨((i:Int) == 0)=true∧(xs[i].time == 5)=false:=by
      by_cases h0:i=0
      ·exact .inr ⟨by simp [h0],by simpa using c4 (by simp [h0])⟩
      ·exact .inl (by simp; omega)
     have hsf:=sceneFault_pch hS xs[i] c5
     simp only [scA] at hsf
     have nx:decide (i+1=0)=false:=by simp
     generalize hsc:xs[i]=sc at *
     have fin:_:=fun h=>hJ (i+1,dd acc sc.no) ⟨by simp only; omega,by simp only; rw [nx]; exact c6⟩ h
     rcases c1 with h0 | ⟨n1,n2,n3⟩
     ·have q0:(sc.no != [])=false:=by simp [h0]
      rcases e5 with e5 | ⟨e5,e6⟩
      ·rcases @seen_dd sc.no acc with ⟨j,v,m1,m2⟩ | ⟨m1,m2⟩
       ·refine go (N:=112) Tryz.ntmps149 300 ?_
        simp only [go_sem,di,hg',q0,e1,e2,e3,e4,e5,m1,m2]
        repeat refine And.intro (by first | omega | simpa using gi) ?_
        refine pcallH1 hg (hsf) rfl (N:=112) Tryz.ntmps149 rfl (go (N:=112) Tryz.ntmps149 300 ?_)
        simp only [go_sem]
        refine ⟨by omega,by omega,?_⟩
        rw [show (i:Int)+1=((i+1:Nat):Int) by omega]
        refine ainv (fin (by simp only; omega)) (Shift.low 2 (by simp) (by simp) ?_ ?_)
        ·simp only [List.take_succ_cons,List.take_zero,List.all_cons,List.all_nil,lowB,flat,cellsOf,lowC,Av.frozen,List.append_nil,Bool.and_self,↓low_seen]
        ·simp only [wkl,lowV,lowC,Av.get,go_sem]
       ·refine go (N:=112) Tryz.ntmps149 300 ?_
        simp only [go_sem,di,hg',q0,e1,e2,e3,e4,e5,m1,m2]
        repeat refine And.intro (by first | omega | simpa using gi) ?_
        refine pcallH1 hg (hsf) rfl (N:=112) Tryz.ntmps149 rfl (go (N:=112) Tryz.ntmps149 300 ?_)
        simp only [go_sem]
        refine ⟨by omega,by omega,?_⟩
        rw [show (i:Int)+1=((i+1:Nat):Int) by omega]
        refine ainv (fin (by simp only; omega)) (Shift.low 2 (by simp) (by simp) ?_ ?_)
        ·simp only [List.take_succ_cons,List.take_zero,List.all_cons,List.all_nil,lowB,flat,cellsOf,lowC,Av.frozen,List.append_nil,Bool.and_self,↓low_seen]
        ·simp only [wkl,lowV,lowC,Av.get,go_sem]
      ·rcases @seen_dd sc.no acc with ⟨j,v,m1,m2⟩ | ⟨m1,m2⟩
       ·refine go (N:=112) Tryz.ntmps149 300 ?_
        simp only [go_sem,di,hg',q0,e1,e2,e3,e4,e5,e6,m1,m2]
        repeat refine And.intro (by first | omega | simpa using gi) ?_
        refine pcallH1 hg (hsf) rfl (N:=112) Tryz.ntmps149 rfl (go (N:=112) Tryz.ntmps149 300 ?_)
        simp only [go_sem]
        refine ⟨by omega,by omega,?_⟩
        rw [show (i:Int)+1=((i+1:Nat):Int) by omega]
        refine ainv (fin (by simp only; omega)) (Shift.low 2 (by simp) (by simp) ?_ ?_)
        ·simp only [List.take_succ_cons,List.take_zero,List.all_cons,List.all_nil,lowB,flat,cellsOf,lowC,Av.frozen,List.append_nil,Bool.and_self,↓low_seen]
        ·simp only [wkl,lowV,lowC,Av.get,go_sem]
       ·refine go (N:=112) Tryz.ntmps149 300 ?_
        simp only [go_sem,di,hg',q0,e1,e2,e3,e4,e5,e6,m1,m2]
        repeat refine And.intro (by first | omega | simpa using gi) ?_
        refine pcallH1 hg (hsf) rfl (N:=112) Tryz.ntmps149 rfl (go (N:=112) Tryz.ntmps149 300 ?_)
        simp only [go_sem]
        refine ⟨by omega,by omega,?_⟩
        rw [show (i:Int)+1=((i+1:Nat):Int) by omega]
        refine ainv (fin (by simp only; omega)) (Shift.low 2 (by simp) (by simp) ?_ ?_)
        ·simp only [List.take_succ_cons,List.take_zero,List.all_cons,List.all_nil,lowB,flat,cellsOf,lowC,Av.frozen,List.append_nil,Bool.and_self,↓low_seen]
        ·simp only [wkl,lowV,lowC,Av.get,go_sem]
     ·by_cases h0:sc.no=[]
      ·rw [h0] at n1
       exact absurd n1 (by decide)
      have q0:(sc.no != [])=true:=by simp [h0]
      have m1:=@mfind_out sc.no acc 0 n3
      have m2:seenM acc++[(.str sc.no,.bool true)]=seenM (dd acc sc.no):=by simp [dd,n3,seenM]
      rcases e5 with e5 | ⟨e5,e6⟩
      ·refine go (N:=112) Tryz.ntmps149 300 ?_
       simp only [go_sem,di,hg',q0,e1,e2,e3,e4,e5,m1,m2]
       repeat refine And.intro (by first | omega | simpa using gi) ?_
       refine pcall1 (isNumber_pc' sc.no n2) rfl (N:=112) Tryz.ntmps149 rfl (go (N:=112) Tryz.ntmps149 300 ?_)
       rw [n1]
       simp only [go_sem,di,hg',q0,e1,e2,e3,e4,e5,m1,m2]
       repeat refine And.intro (by first | omega | simpa using gi) ?_
       refine pcallH1 hg (hsf) rfl (N:=112) Tryz.ntmps149 rfl (go (N:=112) Tryz.ntmps149 300 ?_)
       simp only [go_sem]
       refine ⟨by omega,by omega,?_⟩
       rw [show (i:Int)+1=((i+1:Nat):Int) by omega]
       refine ainv (fin (by simp only; omega)) (Shift.low 2 (by simp) (by simp) ?_ ?_)
       ·simp only [List.take_succ_cons,List.take_zero,List.all_cons,List.all_nil,lowB,flat,cellsOf,lowC,Av.frozen,List.append_nil,Bool.and_self,↓low_seen]
       ·simp only [wkl,lowV,lowC,Av.get,go_sem]
      ·refine go (N:=112) Tryz.ntmps149 300 ?_
       simp only [go_sem,di,hg',q0,e1,e2,e3,e4,e5,e6,m1,m2]
       repeat refine And.intro (by first | omega | simpa using gi) ?_
       refine pcall1 (isNumber_pc' sc.no n2) rfl (N:=112) Tryz.ntmps149 rfl (go (N:=112) Tryz.ntmps149 300 ?_)
       rw [n1]
       simp only [go_sem,di,hg',q0,e1,e2,e3,e4,e5,e6,m1,m2]
       repeat refine And.intro (by first | omega | simpa using gi) ?_
       refine pcallH1 hg (hsf) rfl (N:=112) Tryz.ntmps149 rfl (go (N:=112) Tryz.ntmps149 300 ?_)
       simp only [go_sem]
       refine ⟨by omega,by omega,?_⟩
       rw [show (i:Int)+1=((i+1:Nat):Int) by omega]
       refine ainv (fin (by simp only; omega)) (Shift.low 2 (by simp) (by simp) ?_ ?_)
       ·simp only [List.take_succ_cons,List.take_zero,List.all_cons,List.all_nil,lowB,flat,cellsOf,lowC,Av.frozen,List.append_nil,Bool.and_self,↓low_seen]
       ·simp only [wkl,lowV,lowC,Av.get,go_sem]
    ·have di:decide ((i:Int) < (xs.length:Int))=false:=by simp; omega
     refine go (N:=112) Tryz.ntmps149 300 ?_
     simp only [go_sem,di]
     exact aret [2] rfl ⟨rfl,rfl⟩
end Go.Proofs.YtnfkjpihaficbaaGreatDoor
namespace Go.Proofs
open Go.Shelf
def Tryz.lays156_ren:Go.Shelf.Ren:=⟨fun | 156=>98 | 165=>126 | 166=>127 | 169=>129 | 240=>175 | 241=>176 | 276=>234 | 277=>235 | n=>n,fun | 31=>71 | 9=>9 | 3=>3 | 4=>4 | 0=>0 | 20=>20 | 72=>212 | 76=>177 | 70=>209 | 37=>210 | 75=>176 | 127=>257 | 164=>301 | 5=>5 | 80=>103 | n=>n,fun | n=>n⟩
theorem Tryz.lays156:Go.Proofs.Lays.n156 Tryz.prog Tryz.lays156_ren:={
 mixed:=by kernel_rfl
 f156:=Tryz.func98.trans (congrArg some (by kernel_rfl))
 f165:=Tryz.func126.trans (congrArg some (by kernel_rfl))
 f166:=Tryz.func127.trans (congrArg some (by kernel_rfl))
 f169:=Tryz.func129.trans (congrArg some (by kernel_rfl))
 f240:=Tryz.func175.trans (congrArg some (by kernel_rfl))
 f241:=Tryz.func176.trans (congrArg some (by kernel_rfl))
 f276:=Tryz.func234.trans (congrArg some (by kernel_rfl))
 f277:=Tryz.func235.trans (congrArg some (by kernel_rfl))
 t0:=Tryz.underlying0
 a0:=Tryz.isAgg0
 z0:=Tryz.sizeOf0
 v0:=Tryz.zeroValue0
 t3:=Tryz.underlying3
 a3:=Tryz.isAgg3
 z3:=Tryz.sizeOf3
 v3:=Tryz.zeroValue3
 t4:=Tryz.underlying4
 a4:=Tryz.isAgg4
 z4:=Tryz.sizeOf4
 v4:=Tryz.zeroValue4
 t9:=Tryz.underlying9
 a9:=Tryz.isAgg9
 z9:=Tryz.sizeOf9
 v9:=Tryz.zeroValue9
 t20:=Tryz.underlying20
 a20:=Tryz.isAgg20
 z20:=Tryz.sizeOf20
 v20:=Tryz.zeroValue20
 t31:=Tryz.underlying71
 a31:=Tryz.isAgg71
 z31:=Tryz.sizeOf71
 v31:=Tryz.zeroValue71
 t37:=Tryz.underlying210
 a37:=Tryz.isAgg210
 z37:=Tryz.sizeOf210
 v37:=Tryz.zeroValue210
 t70:=Tryz.underlying209
 a70:=Tryz.isAgg209
 z70:=Tryz.sizeOf209
 v70:=Tryz.zeroValue209
 t72:=Tryz.underlying212
 a72:=Tryz.isAgg212
 z72:=Tryz.sizeOf212
 v72:=Tryz.zeroValue212
 t75:=Tryz.underlying176
 a75:=Tryz.isAgg176
 z75:=Tryz.sizeOf176
 v75:=Tryz.zeroValue176
 t76:=Tryz.underlying177
 a76:=Tryz.isAgg177
 z76:=Tryz.sizeOf177
 v76:=Tryz.zeroValue177
 t127:=Tryz.underlying257
 a127:=Tryz.isAgg257
 z127:=Tryz.sizeOf257
 v127:=Tryz.zeroValue257
 t164:=Tryz.underlying301
 a164:=Tryz.isAgg301
 z164:=Tryz.sizeOf301
 v164:=Tryz.zeroValue301 }
def Tryz.lays157_ren:Go.Shelf.Ren:=⟨fun | 157=>130 | 229=>177 | 199=>178 | 261=>236 | 311=>274 | 312=>275 | n=>n,fun | 9=>9 | 31=>71 | 3=>3 | 5=>5 | 4=>4 | 119=>258 | 0=>0 | 40=>260 | 152=>304 | 21=>21 | 154=>306 | 51=>251 | 141=>308 | 196=>343 | 193=>340 | 198=>346 | 49=>344 | 194=>341 | 201=>349 | 226=>365 | 46=>206 | 227=>366 | n=>n,fun | 0=>0 | 6=>2 | n=>n⟩
theorem Tryz.lays157:Go.Proofs.Lays.n157 Tryz.prog Tryz.lays157_ren:={
 mixed:=by kernel_rfl
 f157:=Tryz.func130.trans (congrArg some (by kernel_rfl))
 f199:=Tryz.func178.trans (congrArg some (by kernel_rfl))
 f229:=Tryz.func177.trans (congrArg some (by kernel_rfl))
 f261:=Tryz.func236.trans (congrArg some (by kernel_rfl))
 f311:=Tryz.func274.trans (congrArg some (by kernel_rfl))
 f312:=Tryz.func275.trans (congrArg some (by kernel_rfl))
 t0:=Tryz.underlying0
 a0:=Tryz.isAgg0
 z0:=Tryz.sizeOf0
 v0:=Tryz.zeroValue0
 t3:=Tryz.underlying3
 a3:=Tryz.isAgg3
 z3:=Tryz.sizeOf3
 v3:=Tryz.zeroValue3
 t4:=Tryz.underlying4
 a4:=Tryz.isAgg4
 z4:=Tryz.sizeOf4
 v4:=Tryz.zeroValue4
 t5:=Tryz.underlying5
 a5:=Tryz.isAgg5
 z5:=Tryz.sizeOf5
 v5:=Tryz.zeroValue5
 t9:=Tryz.underlying9
 a9:=Tryz.isAgg9
 z9:=Tryz.sizeOf9
 v9:=Tryz.zeroValue9
 t21:=Tryz.underlying21
 a21:=Tryz.isAgg21
 z21:=Tryz.sizeOf21
 v21:=Tryz.zeroValue21
 t31:=Tryz.underlying71
 a31:=Tryz.isAgg71
 z31:=Tryz.sizeOf71
 v31:=Tryz.zeroValue71
 t40:=Tryz.underlying260
 a40:=Tryz.isAgg260
 z40:=Tryz.sizeOf260
 v40:=Tryz.zeroValue260
 t46:=Tryz.underlying206
 a46:=Tryz.isAgg206
 z46:=Tryz.sizeOf206
 v46:=Tryz.zeroValue206
 t49:=Tryz.underlying344
 a49:=Tryz.isAgg344
 z49:=Tryz.sizeOf344
 v49:=Tryz.zeroValue344
 t51:=Tryz.underlying251
 a51:=Tryz.isAgg251
 z51:=Tryz.sizeOf251
 v51:=Tryz.zeroValue251
 t119:=Tryz.underlying258
 a119:=Tryz.isAgg258
 z119:=Tryz.sizeOf258
 t141:=Tryz.underlying308
 a141:=Tryz.isAgg308
 z141:=Tryz.sizeOf308
 v141:=Tryz.zeroValue308
 t152:=Tryz.underlying304
 a152:=Tryz.isAgg304
 z152:=Tryz.sizeOf304
 v152:=Tryz.zeroValue304
 t154:=Tryz.underlying306
 a154:=Tryz.isAgg306
 z154:=Tryz.sizeOf306
 v154:=Tryz.zeroValue306
 t193:=Tryz.underlying340
 a193:=Tryz.isAgg340
 z193:=Tryz.sizeOf340
 v193:=Tryz.zeroValue340
 t194:=Tryz.underlying341
 a194:=Tryz.isAgg341
 z194:=Tryz.sizeOf341
 v194:=Tryz.zeroValue341
 t196:=Tryz.underlying343
 a196:=Tryz.isAgg343
 z196:=Tryz.sizeOf343
 v196:=Tryz.zeroValue343
 t198:=Tryz.underlying346
 a198:=Tryz.isAgg346
 z198:=Tryz.sizeOf346
 v198:=Tryz.zeroValue346
 t201:=Tryz.underlying349
 a201:=Tryz.isAgg349
 z201:=Tryz.sizeOf349
 v201:=Tryz.zeroValue349
 t226:=Tryz.underlying365
 a226:=Tryz.isAgg365
 z226:=Tryz.sizeOf365
 v226:=Tryz.zeroValue365
 t227:=Tryz.underlying366
 a227:=Tryz.isAgg366
 z227:=Tryz.sizeOf366
 v227:=Tryz.zeroValue366
 g0:=by kernel_rfl
 g6:=by kernel_rfl }
end Go.Proofs
