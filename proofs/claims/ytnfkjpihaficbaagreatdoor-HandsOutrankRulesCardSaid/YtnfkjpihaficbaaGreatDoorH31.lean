/- script.Check of right scripts. Own work of this seat. -/
import Derived.Test.YtnfkjpihaficbaaGreatDoorH30
import Derived.Shelf.Strings.OnBuilder
import Derived.Shelf.Strings.Fields
set_option maxRecDepth 100000
set_option linter.unusedSimpArgs false
set_option linter.unusedVariables false
namespace Go.Proofs.YtnfkjpihaficbaaGreatDoor
open Go Go.Av Go.RowKit
def seenM (ks:List (List UInt8)):List (AV × AV):=ks.map fun k=>(.str k,.bool true)
theorem mfind_out {k:List UInt8}:∀ {ks:List (List UInt8)} {n:Nat},k ∉ ks→mfind .string (.str k) (seenM ks) n=some none
 | [],n,_=>rfl
 | a :: r,n,h=>by
  simp only [List.mem_cons,not_or] at h
  have:(k == a)=false:=by simpa using h.1
  simp only [seenM,List.map_cons,mfind,keyEq,this]
  exact mfind_out h.2
theorem mfind_in {k:List UInt8}:∀ {ks:List (List UInt8)} {n:Nat},k ∈ ks→∃ i,mfind .string (.str k) (seenM ks) n=some (some (n+i,.bool true))∧ks[i]? = some k
 | [],n,h=>by simp at h
 | a :: r,n,h=>by
  by_cases e:k=a
  ·subst e
   exact ⟨0,by simp [seenM,mfind,keyEq],rfl⟩
  ·have:(k == a)=false:=by simpa using e
   obtain ⟨i,h1,h2⟩:=mfind_in (n:=n+1) ((List.mem_cons.1 h).resolve_left e)
   refine ⟨i+1,?_,by simpa using h2⟩
   simp only [seenM,List.map_cons,mfind,keyEq,this]
   rw [show n+(i+1)=n+1+i by omega]
   exact h1
def dd (acc:List (List UInt8)) (k:List UInt8):List (List UInt8):=if k ∈ acc then acc else acc++[k]
def okFrom:List (List UInt8)→Bool→List Sc→Prop
 | _,_,[]=>True
 | acc,first,x :: r=>(x.no=[]∨(numberL x.no=true∧x.no.length < 1000000∧x.no ∉ acc))∧(1 ≤ x.place∧x.place ≤ 3)∧(1 ≤ x.time∧x.time ≤ 5)∧(first=true→x.time ≠ 5)∧SceneOk x∧okFrom (dd acc x.no) false r
def paraSum (l:List Sc):Nat:=(l.map fun x=>x.paras.length).sum
structure ScriptOk (x:Sr):Prop where
 title:1 ≤ x.title.length∧x.title.length ≤ 60
 plain:plainL x.title=true
 len:x.scenes.length ≤ 300
 many:paraSum x.scenes ≤ 4000
 ok:okFrom [] true x.scenes
theorem paraSum_take (l:List Sc) (i:Nat) (h:i < l.length):paraSum (l.take (i+1))=paraSum (l.take i)+l[i].paras.length:=by
 simp only [paraSum,List.take_add_one,List.map_append,List.sum_append]
 simp [h]
theorem paraSum_take_le (l:List Sc) (i:Nat):paraSum (l.take i) ≤ paraSum l:=by
 have:paraSum l=paraSum (l.take i)+paraSum (l.drop i):=by
  simp only [paraSum]
  rw [← List.sum_append,← List.map_append,List.take_append_drop]
 omega
theorem low_seen (n:Nat) (ks:List (List UInt8)):lowB n (.mp (seenM ks))=true:=by
 show (seenM ks).all _=true
 rw [List.all_eq_true]
 intro x hx
 simp only [seenM,List.mem_map] at hx
 obtain ⟨y,_,rfl⟩:=hx
 rfl
theorem seen_dd {k:List UInt8} {ks:List (List UInt8)}:(∃ i v,mfind .string (.str k) (seenM ks) 0=some (some (i,v))∧(seenM ks).set i (.str k,.bool true)=seenM (dd ks k)) ∨
  (mfind .string (.str k) (seenM ks) 0=some none∧seenM ks++[(.str k,.bool true)]=seenM (dd ks k)):=by
 by_cases h:k ∈ ks
 ·left
  obtain ⟨i,h1,h2⟩:=mfind_in (n:=0) h
  refine ⟨0+i,_,h1,?_⟩
  have:(seenM ks)[i]? = some (.str k,.bool true):=by simp [seenM,h2]
  rw [Nat.zero_add]
  have hs:(seenM ks).set i (.str k,.bool true)=seenM ks:=by
   apply List.ext_getElem?
   intro j
   rw [List.getElem?_set]
   split
   ·rename_i hj
    subst hj
    split
    ·exact this.symm
    ·rename_i hn
     rw [List.getElem?_eq_none (by omega)] at this
     cases this
   ·rfl
  rw [hs]
  simp [dd,h]
 ·right
  exact ⟨mfind_out h,by simp [dd,h,seenM]⟩
set_option maxHeartbeats 4000000 in
theorem check_pch {S:Std} (hS:LibOk S) (x:Sr) (hx:ScriptOk x):PcH Tryz.prog S 149 [srA x] (· = .int .i64 0):=by
 obtain ⟨ti,xs⟩:=x
 have t1:=hx.title
 have t2:=hx.plain
 have t3:=hx.len
 have t4:=hx.many
 have t5:=hx.ok
 simp only at t1 t2 t3 t4 t5
 have d1:decide ((ti.length:Int) < 1)=false:=by simp; omega
 have d2:decide ((ti.length:Int) > 60)=false:=by simp; omega
 simp only [srA]
 refine pch_intro (cth_intro Tryz.func149 rfl Tryz.ntmps149 hB149 (by simp) fun h ρ w hg=>go (N:=112) Tryz.ntmps149 300 ?_)
 simp only [go_sem,d1,d2]
 refine pcallH1 hg (plain_pch hS ti (by omega)) rfl (N:=112) Tryz.ntmps149 rfl (go (N:=112) Tryz.ntmps149 300 ?_)
 rw [t2]
 simp only [go_sem]
 refine aloop (ι:=Nat) (fun i=>xs.length - i)
  (fun i=>[(29,.int .i64 i),(28,.int .i64 xs.length),(27,.fz 5 (xs.map scA)),(3,.int .i64 (paraSum (xs.take i))),(1,.ptr 0 1 0 0)])
  (fun _=>[.arr 2 [.agg [.str ti,.fz 5 (xs.map scA)]]]) (fun i=>i ≤ xs.length) 0 (by simp) ?_ ?_
 ·refine Shift.weak ?_
  simp only [wk,go_sem,List.length_map]
  simp [paraSum]
 ·intro i g1 J hJ
  by_cases gi:i < xs.length
  ·have di:decide ((i:Int) < (xs.length:Int))=true:=by simp; omega
   have hg':List.getD (List.map scA xs) i .any=.agg [.str xs[i].no,.int .i64 xs[i].place,.str xs[i].set,.int .i64 xs[i].time,.fz 2 (xs[i].paras.map paA)]:=by simp [List.getD,gi,scA]
   have hs:=paraSum_take xs i gi
   have hle:=paraSum_take_le xs (i+1)
   refine go (N:=112) Tryz.ntmps149 300 ?_
   simp only [go_sem,di,hg',List.length_map]
   repeat refine And.intro (by first | omega | simpa using gi) ?_
   rw [show (paraSum (xs.take i):Int)+(xs[i].paras.length:Int)=(paraSum (xs.take (i+1)):Int) by omega,show (i:Int)+1=((i+1:Nat):Int) by omega]
   refine ainv (hJ (i+1) (by omega) (by omega)) (Shift.low 1 (by simp) (by simp) ?_ ?_)
   ·simp only [List.take_succ_cons,List.take_zero,List.all_cons,List.all_nil,lowB,flat,cellsOf,lowC,Av.frozen,List.append_nil,Bool.and_self]
   ·simp only [wkl,lowV,lowC,Av.get,go_sem]
  ·have di:decide ((i:Int) < (xs.length:Int))=false:=by simp; omega
   have:i=xs.length:=by omega
   subst this
   rw [List.take_length]
   have d3:decide ((xs.length:Int) > 300)=false:=by simp; omega
   have d4:decide ((paraSum xs:Int) > 4000)=false:=by simp; omega
   refine go (N:=112) Tryz.ntmps149 300 ?_
   simp only [go_sem,di,d3,d4,List.length_map]
   refine aloop (ι:=Nat × List (List UInt8)) (fun y=>xs.length - y.1)
    (fun y=>[(51,.int .i64 y.1),(50,.int .i64 xs.length),(49,.fz 5 (xs.map scA)),(6,.mp 1),(1,.ptr 0 1 0 0)])
    (fun y=>[.arr 2 [.agg [.str ti,.fz 5 (xs.map scA)]],.mp (seenM y.2)]) (fun y=>y.1 ≤ xs.length∧okFrom y.2 (decide (y.1=0)) (xs.drop y.1)) (0,[]) ⟨by simp,t5⟩ ?_ ?_
   ·refine Shift.weak ?_
    simp only [wk,go_sem]
   ·clear hJ J
    rintro ⟨i,acc⟩ ⟨g1,g2⟩ J hJ
    simp only at g1 g2 hJ ⊢
    by_cases gi:i < xs.length
    ·have di:decide ((i:Int) < (xs.length:Int))=true:=by simp; omega
     have hg':List.getD (List.map scA xs) i .any=.agg [.str xs[i].no,.int .i64 xs[i].place,.str xs[i].set,.int .i64 xs[i].time,.fz 2 (xs[i].paras.map paA)]:=by simp [List.getD,gi,scA]
     have hd:xs.drop i=xs[i] :: xs.drop (i+1):=List.drop_eq_getElem_cons gi
     rw [hd] at g2
     obtain ⟨c1,c2,c3,c4,c5,c6⟩:=g2
     have e1:decide (xs[i].place < 1)=false:=by simp; omega
     have e2:decide (xs[i].place > 3)=false:=by simp; omega
     have e3:decide (xs[i].time < 1)=false:=by simp; omega
     have e4:decide (xs[i].time > 5)=false:=by simp; omega
     have e5:((i:Int) == 0)=false∨((i:Int) == 0)=true∧(xs[i].time == 5)=false:=by
      by_cases h0:i=0
      ·exact .inr ⟨by simp [h0],by simpa using c4 (by simp [h0])⟩
      ·exact .inl (by simp; omega)
     have hsf:=sceneFault_pch hS xs[i] c5
     simp only [scA] at hsf
     have nx:decide (i+1=0)=false:=by simp
     generalize hsc:xs[i]=sc at *
     have fin:_:=fun h=>hJ (i+1,dd acc sc.no) ⟨by simp only; omega,by simp only; rw [nx]; exact c6⟩ h
     rcases c1 with h0 | ⟨n1,n2,n3⟩
     ·have q0:(sc.no != [])=false:=by simp [h0]
      rcases e5 with e5 | ⟨e5,e6⟩
      ·rcases @seen_dd sc.no acc with ⟨j,v,m1,m2⟩ | ⟨m1,m2⟩
       ·refine go (N:=112) Tryz.ntmps149 300 ?_
        simp only [go_sem,di,hg',q0,e1,e2,e3,e4,e5,m1,m2]
        repeat refine And.intro (by first | omega | simpa using gi) ?_
        refine pcallH1 hg (hsf) rfl (N:=112) Tryz.ntmps149 rfl (go (N:=112) Tryz.ntmps149 300 ?_)
        simp only [go_sem]
        refine ⟨by omega,by omega,?_⟩
        rw [show (i:Int)+1=((i+1:Nat):Int) by omega]
        refine ainv (fin (by simp only; omega)) (Shift.low 2 (by simp) (by simp) ?_ ?_)
        ·simp only [List.take_succ_cons,List.take_zero,List.all_cons,List.all_nil,lowB,flat,cellsOf,lowC,Av.frozen,List.append_nil,Bool.and_self,↓low_seen]
        ·simp only [wkl,lowV,lowC,Av.get,go_sem]
       ·refine go (N:=112) Tryz.ntmps149 300 ?_
        simp only [go_sem,di,hg',q0,e1,e2,e3,e4,e5,m1,m2]
        repeat refine And.intro (by first | omega | simpa using gi) ?_
        refine pcallH1 hg (hsf) rfl (N:=112) Tryz.ntmps149 rfl (go (N:=112) Tryz.ntmps149 300 ?_)
        simp only [go_sem]
        refine ⟨by omega,by omega,?_⟩
        rw [show (i:Int)+1=((i+1:Nat):Int) by omega]
        refine ainv (fin (by simp only; omega)) (Shift.low 2 (by simp) (by simp) ?_ ?_)
        ·simp only [List.take_succ_cons,List.take_zero,List.all_cons,List.all_nil,lowB,flat,cellsOf,lowC,Av.frozen,List.append_nil,Bool.and_self,↓low_seen]
        ·simp only [wkl,lowV,lowC,Av.get,go_sem]
      ·rcases @seen_dd sc.no acc with ⟨j,v,m1,m2⟩ | ⟨m1,m2⟩
       ·refine go (N:=112) Tryz.ntmps149 300 ?_
        simp only [go_sem,di,hg',q0,e1,e2,e3,e4,e5,e6,m1,m2]
        repeat refine And.intro (by first | omega | simpa using gi) ?_
        refine pcallH1 hg (hsf) rfl (N:=112) Tryz.ntmps149 rfl (go (N:=112) Tryz.ntmps149 300 ?_)
        simp only [go_sem]
        refine ⟨by omega,by omega,?_⟩
        rw [show (i:Int)+1=((i+1:Nat):Int) by omega]
        refine ainv (fin (by simp only; omega)) (Shift.low 2 (by simp) (by simp) ?_ ?_)
        ·simp only [List.take_succ_cons,List.take_zero,List.all_cons,List.all_nil,lowB,flat,cellsOf,lowC,Av.frozen,List.append_nil,Bool.and_self,↓low_seen]
        ·simp only [wkl,lowV,lowC,Av.get,go_sem]
       ·refine go (N:=112) Tryz.ntmps149 300 ?_
        simp only [go_sem,di,hg',q0,e1,e2,e3,e4,e5,e6,m1,m2]
        repeat refine And.intro (by first | omega | simpa using gi) ?_
        refine pcallH1 hg (hsf) rfl (N:=112) Tryz.ntmps149 rfl (go (N:=112) Tryz.ntmps149 300 ?_)
        simp only [go_sem]
        refine ⟨by omega,by omega,?_⟩
        rw [show (i:Int)+1=((i+1:Nat):Int) by omega]
        refine ainv (fin (by simp only; omega)) (Shift.low 2 (by simp) (by simp) ?_ ?_)
        ·simp only [List.take_succ_cons,List.take_zero,List.all_cons,List.all_nil,lowB,flat,cellsOf,lowC,Av.frozen,List.append_nil,Bool.and_self,↓low_seen]
        ·simp only [wkl,lowV,lowC,Av.get,go_sem]
     ·by_cases h0:sc.no=[]
      ·rw [h0] at n1
       exact absurd n1 (by decide)
      have q0:(sc.no != [])=true:=by simp [h0]
      have m1:=@mfind_out sc.no acc 0 n3
      have m2:seenM acc++[(.str sc.no,.bool true)]=seenM (dd acc sc.no):=by simp [dd,n3,seenM]
      rcases e5 with e5 | ⟨e5,e6⟩
      ·refine go (N:=112) Tryz.ntmps149 300 ?_
       simp only [go_sem,di,hg',q0,e1,e2,e3,e4,e5,m1,m2]
       repeat refine And.intro (by first | omega | simpa using gi) ?_
       refine pcall1 (isNumber_pc' sc.no n2) rfl (N:=112) Tryz.ntmps149 rfl (go (N:=112) Tryz.ntmps149 300 ?_)
       rw [n1]
       simp only [go_sem,di,hg',q0,e1,e2,e3,e4,e5,m1,m2]
       repeat refine And.intro (by first | omega | simpa using gi) ?_
       refine pcallH1 hg (hsf) rfl (N:=112) Tryz.ntmps149 rfl (go (N:=112) Tryz.ntmps149 300 ?_)
       simp only [go_sem]
       refine ⟨by omega,by omega,?_⟩
       rw [show (i:Int)+1=((i+1:Nat):Int) by omega]
       refine ainv (fin (by simp only; omega)) (Shift.low 2 (by simp) (by simp) ?_ ?_)
       ·simp only [List.take_succ_cons,List.take_zero,List.all_cons,List.all_nil,lowB,flat,cellsOf,lowC,Av.frozen,List.append_nil,Bool.and_self,↓low_seen]
       ·simp only [wkl,lowV,lowC,Av.get,go_sem]
      ·refine go (N:=112) Tryz.ntmps149 300 ?_
       simp only [go_sem,di,hg',q0,e1,e2,e3,e4,e5,e6,m1,m2]
       repeat refine And.intro (by first | omega | simpa using gi) ?_
       refine pcall1 (isNumber_pc' sc.no n2) rfl (N:=112) Tryz.ntmps149 rfl (go (N:=112) Tryz.ntmps149 300 ?_)
       rw [n1]
       simp only [go_sem,di,hg',q0,e1,e2,e3,e4,e5,e6,m1,m2]
       repeat refine And.intro (by first | omega | simpa using gi) ?_
       refine pcallH1 hg (hsf) rfl (N:=112) Tryz.ntmps149 rfl (go (N:=112) Tryz.ntmps149 300 ?_)
       simp only [go_sem]
       refine ⟨by omega,by omega,?_⟩
       rw [show (i:Int)+1=((i+1:Nat):Int) by omega]
       refine ainv (fin (by simp only; omega)) (Shift.low 2 (by simp) (by simp) ?_ ?_)
       ·simp only [List.take_succ_cons,List.take_zero,List.all_cons,List.all_nil,lowB,flat,cellsOf,lowC,Av.frozen,List.append_nil,Bool.and_self,↓low_seen]
       ·simp only [wkl,lowV,lowC,Av.get,go_sem]
    ·have di:decide ((i:Int) < (xs.length:Int))=false:=by simp; omega
     refine go (N:=112) Tryz.ntmps149 300 ?_
     simp only [go_sem,di]
     exact aret [2] rfl ⟨rfl,rfl⟩
end Go.Proofs.YtnfkjpihaficbaaGreatDoor
namespace Go.Proofs
open Go.Shelf
def Tryz.lays156_ren:Go.Shelf.Ren:=⟨fun | 156=>98 | 165=>126 | 166=>127 | 169=>129 | 240=>175 | 241=>176 | 276=>234 | 277=>235 | n=>n,fun | 31=>71 | 9=>9 | 3=>3 | 4=>4 | 0=>0 | 20=>20 | 72=>212 | 76=>177 | 70=>209 | 37=>210 | 75=>176 | 127=>257 | 164=>301 | 5=>5 | 80=>103 | n=>n,fun | n=>n⟩
theorem Tryz.lays156:Go.Proofs.Lays.n156 Tryz.prog Tryz.lays156_ren:={
 mixed:=by kernel_rfl
 f156:=Tryz.func98.trans (congrArg some (by kernel_rfl))
 f165:=Tryz.func126.trans (congrArg some (by kernel_rfl))
 f166:=Tryz.func127.trans (congrArg some (by kernel_rfl))
 f169:=Tryz.func129.trans (congrArg some (by kernel_rfl))
 f240:=Tryz.func175.trans (congrArg some (by kernel_rfl))
 f241:=Tryz.func176.trans (congrArg some (by kernel_rfl))
 f276:=Tryz.func234.trans (congrArg some (by kernel_rfl))
 f277:=Tryz.func235.trans (congrArg some (by kernel_rfl))
 t0:=Tryz.underlying0
 a0:=Tryz.isAgg0
 z0:=Tryz.sizeOf0
 v0:=Tryz.zeroValue0
 t3:=Tryz.underlying3
 a3:=Tryz.isAgg3
 z3:=Tryz.sizeOf3
 v3:=Tryz.zeroValue3
 t4:=Tryz.underlying4
 a4:=Tryz.isAgg4
 z4:=Tryz.sizeOf4
 v4:=Tryz.zeroValue4
 t9:=Tryz.underlying9
 a9:=Tryz.isAgg9
 z9:=Tryz.sizeOf9
 v9:=Tryz.zeroValue9
 t20:=Tryz.underlying20
 a20:=Tryz.isAgg20
 z20:=Tryz.sizeOf20
 v20:=Tryz.zeroValue20
 t31:=Tryz.underlying71
 a31:=Tryz.isAgg71
 z31:=Tryz.sizeOf71
 v31:=Tryz.zeroValue71
 t37:=Tryz.underlying210
 a37:=Tryz.isAgg210
 z37:=Tryz.sizeOf210
 v37:=Tryz.zeroValue210
 t70:=Tryz.underlying209
 a70:=Tryz.isAgg209
 z70:=Tryz.sizeOf209
 v70:=Tryz.zeroValue209
 t72:=Tryz.underlying212
 a72:=Tryz.isAgg212
 z72:=Tryz.sizeOf212
 v72:=Tryz.zeroValue212
 t75:=Tryz.underlying176
 a75:=Tryz.isAgg176
 z75:=Tryz.sizeOf176
 v75:=Tryz.zeroValue176
 t76:=Tryz.underlying177
 a76:=Tryz.isAgg177
 z76:=Tryz.sizeOf177
 v76:=Tryz.zeroValue177
 t127:=Tryz.underlying257
 a127:=Tryz.isAgg257
 z127:=Tryz.sizeOf257
 v127:=Tryz.zeroValue257
 t164:=Tryz.underlying301
 a164:=Tryz.isAgg301
 z164:=Tryz.sizeOf301
 v164:=Tryz.zeroValue301 }
theorem Tryz.Builder_Extra_156:Builder.Extra Tryz.prog Tryz.lays156_ren:={
 sizeBuilder:=by kernel_rfl
 liesBuilder:=by kernel_rfl
 t5:=Tryz.underlying5
 a5:=Tryz.isAgg5
 z5:=Tryz.sizeOf5
 v5:=Tryz.zeroValue5
 infoByte:=by kernel_rfl
 cellsByte:=by kernel_rfl
 sizeByte:=by kernel_rfl
 neB5:=by decide }
end Go.Proofs
namespace Go.Proofs.YtnfkjpihaficbaaGreatDoor
open Go Go.Av Go.RowKit
theorem h_str {h:Mem} {v:Value} {s:List UInt8} (r:RV h Lf0 true v (.str s)):v=.string ⟨s.toArray⟩:=by cases r with | str=>rfl
structure LibR (S:Std):Prop where
 ok:LibOk S
 spc:∃ t z,S 0=some (.cells (Lib.asciiSpaceTab.map fun z=>Value.int .u8 z).toArray t z)
theorem rl_strsT {h:Mem}:∀ {l:List (List UInt8)} {vs:List Value} {Lf:Value→AV→Prop},RL h Lf true vs (strs l)→vs=l.map sval
 | [],_,_,r=>by cases r; rfl
 | x :: l,_,_,r=>by
  cases r with
  | cons r1 r2 =>
   rw [rl_strsT r2]
   cases r1 with
   | str=>rfl
theorem djoin_pc (ls:List (List UInt8)) (sep:List UInt8) (h1:ls.length ≤ 1000000) (h2:(Lib.join ls sep).length ≤ 140737488355328):Pc Tryz.prog 98 [.fz 1 (strs ls),.str sep] (· = .str (Lib.join ls sep)):=by
 refine ⟨hB98,fun h w vs' hm hv=>?_⟩
 cases hv with
 | cons r1 r=>cases r with
  | cons r2 r =>
   cases r
   rw [h_str r2]
   have hfin:∀ (u:Value),Calls Tryz.prog 98 #[u,.string ⟨sep.toArray⟩] w (fun e w'=>e=.returned (.string ⟨(Lib.join ls sep).toArray⟩)∧Below w.heap.size w w')→Calls Tryz.prog 98 [u,.string ⟨sep.toArray⟩].toArray w fun en w'=>∃ v r h',en=.returned v∧r=.str (Lib.join ls sep)∧(∀ b o v,h' b o=some v→w'.cell? ⟨b,o,none⟩=some v∧v.oneCell'=true)∧(∀ b o v,h b o=some v→h' b o=some v)∧(∀ b o,h b o=none→h' b o ≠ none→w.heap.size ≤ b)∧Same w w'∧RV h' Lf0 true v r:=fun u hc=>by
    refine hc.mono ?_
    rintro e w' ⟨rfl,hs⟩
    have hs:Same w w':=⟨hs.os,hs.tape,⟨hs.output,trivial⟩,hs.size,hs.block⟩
    exact ⟨_,_,h,rfl,rfl,fun b o v e=>⟨hs.cell (hm b o v e).1,(hm b o v e).2⟩,fun _ _ _ x=>x,fun b o e n=>(n e).elim,hs,.str _⟩
   rcases inv_fz (ρ:=fun _=>none) (sto:=[]) (r1.thaw (fun _ _ _ x=>x) (fl:=false)) with ⟨hl,hu⟩ | ⟨b,o,c,vs,hu,q1,q2,q3,q4⟩
   ·have hl:ls=[]:=by simpa using hl
    subst hl hu
    exact hfin _ ((Any.strings_Join_none Tryz.lays156 Tryz.Builder_Extra_156 none 0 ⟨sep.toArray⟩ w).mono fun e w' ⟨he,hw⟩=>⟨he,hw ▸ Below.refl _ _⟩)
   ·subst hu
    rw [flat_strs] at q1
    have hvs:=rl_strsT q1
    rw [List.length_map] at q4 ⊢
    cases hls:ls with
    | nil =>
     rw [← hls]
     have hz:ls.length=0:=by rw [hls]; rfl
     rw [hz]
     refine hfin _ ?_
     rw [hls]
     exact (Any.strings_Join_none Tryz.lays156 Tryz.Builder_Extra_156 (some ⟨b,o,none⟩) c ⟨sep.toArray⟩ w).mono fun e w' ⟨he,hw⟩=>⟨he,hw ▸ Below.refl _ _⟩
    | cons x r =>
     rw [← hls]
     have hcell:∀ (j:Nat) (y:List UInt8),ls[j]? = some y→w.cell? ⟨b,o+j,none⟩=some (sval y):=fun j y hy=>(hm _ _ _ (q3 j (sval y) (by rw [hvs,List.getElem?_map,hy]; rfl))).1
     have hb:b < w.heap.size:=World.block_lt_of_cell? w _ (hcell 0 x (by rw [hls]; rfl))
     have hdl:(ls.map fun s=>(⟨s.toArray⟩:ByteArray)).map (·.data.toList)=ls:=by
      rw [List.map_map]
      exact List.map_id ls
     refine hfin _ ?_
     have hj:=Any.strings_Join Tryz.lays156 Tryz.Builder_Extra_156 b o c (ls.map fun s=>⟨s.toArray⟩) ⟨sep.toArray⟩ w (fun j y hy=>by
      rw [List.getElem?_map] at hy
      cases hq:ls[j]? with
      | none=>rw [hq] at hy; cases hy
      | some z =>
       rw [hq] at hy
       cases hy
       exact hcell j z hq) hb (by rw [List.length_map]; omega) (by rw [List.length_map]; exact q4) (by rw [hdl]; exact h2)
     rw [hdl,List.length_map] at hj
     exact hj
def okR (c:UInt8):Bool:=!decide ((c.toNat:Int) < 32) && !decide ((c.toNat:Int) > 126)
def plainR (s:List UInt8):Bool:=s.all okR && (Lib.join (Lib.fields s) [32] == s)
def madeR (s p:List UInt8):Bool:=Lib.trimS s p == []
theorem madeR_pc (s p:List UInt8) (hs:s.length < 1000000) (hp:p.length < 1000) (h2:asciiL p):Pc Tryz.prog 77 [.str s,.str p] (· = .bool (madeR s p)):=by
 have ht:=trim_pc s p (by omega) (by omega) h2
 refine pc_intro (ct_intro Tryz.func77 rfl Tryz.ntmps77 hB77 (by simp) fun h ρ w=>goB (N:=9) Tryz.ntmps77 300 ?_)
 simp only [go_sem]
 refine pcall1 (ht) rfl (N:=9) Tryz.ntmps77 rfl (goB (N:=9) Tryz.ntmps77 300 ?_)
 simp only [go_sem]
 exact aret [4] rfl ⟨rfl,rfl⟩
def longR (s:List UInt8) (a b:Int):Bool:=decide ((s.length:Int) ≥ a) && decide ((s.length:Int) ≤ b)
theorem longR_pc (s:List UInt8) (a b:Int):Pc Tryz.prog 75 [.str s,.int .i64 a,.int .i64 b] (· = .bool (longR s a b)):=by
 refine pc_intro (ct_intro Tryz.func75 rfl Tryz.ntmps75 hB75 (by simp) fun h ρ w=>goB (N:=17) Tryz.ntmps75 300 ?_)
 cases d1:decide ((s.length:Int) ≥ a) with
 | true =>
  simp only [go_sem,d1]
  exact aret [6] rfl ⟨by simp [resV,Av.get,Av.put,longR,d1],rfl⟩
 | false =>
  simp only [go_sem,d1]
  exact aret [6] rfl ⟨by simp [resV,Av.get,Av.put,longR,d1],rfl⟩
def nameSet:List UInt8:=[65,66,67,68,69,70,71,72,73,74,75,76,77,78,79,80,81,82,83,84,85,86,87,88,89,90,48,49,50,51,52,53,54,55,56,57,32,39,46,45]
def nameR (s:List UInt8):Bool:=longR s 1 30 && (plainR s && (madeR s nameSet && madeR (s.take 1) CAPS))
end Go.Proofs.YtnfkjpihaficbaaGreatDoor
namespace Go.Proofs.YtnfkjpihaficbaaGreatDoor
open Go Go.Av Go.RowKit
theorem title_all:(TitleL.all fun t=>plainL t && (decide (1 ≤ t.length) && decide (t.length ≤ 60)))=true:=by decide +kernel
theorem set_all:(SetL.all fun t=>isSetL t && decide (t.length < 1000000))=true:=by decide +kernel
theorem drawn_scene {x:Sc} (h:DrawnS x):SceneOk x:=by
 have:=List.all_eq_true.1 set_all x.set h.set
 simp only [Bool.and_eq_true,decide_eq_true_eq] at this
 exact ⟨this.1,this.2,by have:=h.len; omega,h.run⟩
theorem sum_le:∀ (l:List Sc),(∀ y ∈ l,y.paras.length ≤ 60)→paraSum l ≤ 60 * l.length
 | [],_=>by simp [paraSum]
 | x :: r,h=>by
  have h1:=h x (by simp)
  have h2:=sum_le r (fun y hy=>h y (by simp [hy]))
  simp only [paraSum,List.map_cons,List.sum_cons,List.length_cons] at h2 ⊢
  omega
def accN (i:Nat):List (List UInt8):=(List.range i).map fun j=>lastL (j+1)
theorem acc_new:∀ i,i < 5→lastL (i+1) ∉ accN i∧numberL (lastL (i+1))=true∧(lastL (i+1)).length < 1000000:=by
 have h:∀ i:Fin 5,lastL (i.1+1) ∉ accN i.1∧numberL (lastL (i.1+1))=true∧(lastL (i.1+1)).length < 1000000:=by decide +kernel
 exact fun i hi=>h ⟨i,hi⟩
end Go.Proofs.YtnfkjpihaficbaaGreatDoor
set_option linter.unusedSectionVars false
namespace Go.Av
open Go Go.RowKit
variable [Tr]
theorem acut {c:Cx} {x:It} {B:Code} {k:List It} {e:Env} {s:List Blk} {ι:Type} (E:ι→Env) (S:ι→List Blk) (H:ι→Prop)
  (h1:∀ J:Act→World→Prop,(∀ y,H y→∀ a w,Sim c (E y) (S y) a w→J a w)→AWp c (x :: .inv J :: k) e s)
  (h2:∀ y,H y→AWp c (.code B :: k) (E y) (S y)):AWp c (x :: .code B :: k) e s:=by
 intro a w hs
 have h:=h1 (fun a w=>B.wp c.P (WQ c k) a w) (fun y hy a w hs=>h2 y hy a w hs) a w hs
 have e1:WQ c (.inv (fun a w=>B.wp c.P (WQ c k) a w) :: k)=WQ c (.code B :: k):=by
  funext en a w
  cases en <;> rfl
 have e2:WQ c (x :: .inv (fun a w=>B.wp c.P (WQ c k) a w) :: k)=WQ c (x :: .code B :: k):=by
  funext en a w
  cases en <;> simp only [WQ,e1]
 rw [e2] at h
 exact h
end Go.Av
namespace Go.Proofs.YtnfkjpihaficbaaGreatDoor
open Go Go.Av Go.RowKit
structure StoryOk (x:Sr):Prop where
 title:x.title ∈ TitleL
 len:x.scenes.length ≤ 5
 no:∀ i,(h:i < x.scenes.length)→x.scenes[i].no=lastL (i+1)
 all:∀ i,(h:i < x.scenes.length)→DrawnS ⟨[],x.scenes[i].place,x.scenes[i].set,x.scenes[i].time,x.scenes[i].paras⟩
 first:∀ y,x.scenes.head? = some y→y.time ≠ 5
theorem story_ok {x:Sr} (h:DrawnR x):StoryOk (numR x):=by
 have hg:∀ i,(hi:i < (numR x).scenes.length)→∃ (h2:i < x.scenes.length),(numR x).scenes[i]=nm i x.scenes[i]:=fun i hi=>by
  simp only [numR,numL_len] at hi
  refine ⟨hi,?_⟩
  have:=numL_get x.scenes 0 i hi
  simp only [Nat.zero_add] at this
  exact (List.getElem?_eq_some_iff.1 this).2
 refine ⟨h.title,by simp only [numR,numL_len]; exact h.len,fun i hi=>?_,fun i hi=>?_,fun y hy=>?_⟩
 ·obtain ⟨h2,e⟩:=hg i hi
  rw [e]
  exact num_last i (by have:=h.len; omega)
 ·obtain ⟨h2,e⟩:=hg i hi
  rw [e]
  have hd:=h.all _ (List.getElem_mem h2)
  exact ⟨rfl,hd.place,hd.set,hd.time,hd.run,hd.len,hd.all⟩
 ·have:=h.first
  obtain ⟨ti,xs⟩:=x
  cases xs with
  | nil=>simp [numR,numL] at hy
  | cons a r =>
   simp only [numR,numL,List.head?_cons,Option.some.injEq] at hy
   rw [← hy]
   exact this a rfl
theorem no_facts (i:Nat) (hi:i < 5):Lib.trimLeftS (lastL (i+1)) DIG=[]∧1 ≤ (lastL (i+1)).length∧(lastL (i+1)).length ≤ 3∧(lastL (i+1)).getD 0 0 ≠ 48∧(lastL (i+1) == [])=false:=by
 have h:∀ i:Fin 5,Lib.trimLeftS (lastL (i.1+1)) DIG=[]∧1 ≤ (lastL (i.1+1)).length∧(lastL (i.1+1)).length ≤ 3∧(lastL (i.1+1)).getD 0 0 ≠ 48∧(lastL (i.1+1) == [])=false:=by decide +kernel
 exact h ⟨i,hi⟩
theorem no_ne (i j:Nat) (hi:i < 5) (hj:j < 5) (h:i ≠ j):lastL (i+1) ≠ lastL (j+1):=by
 have h':∀ i j:Fin 5,i.1 ≠ j.1→lastL (i.1+1) ≠ lastL (j.1+1):=by decide +kernel
 exact h' ⟨i,hi⟩ ⟨j,hj⟩ h
theorem StoryOk.inj {x:Sr} (h:StoryOk x) {i j:Nat} (hi:i < x.scenes.length) (hj:j < x.scenes.length) (e:x.scenes[i].no=x.scenes[j].no):i=j:=by
 rw [h.no i hi,h.no j hj] at e
 have:=h.len
 exact Classical.byContradiction fun hn=>no_ne i j (by omega) (by omega) hn e
theorem story_sum {x:Sr} (h:StoryOk x):paraSum x.scenes ≤ 300:=by
 have h1:=sum_le x.scenes (fun z hz=>by
  obtain ⟨i,hi,rfl⟩:=List.getElem_of_mem hz
  exact (h.all i hi).len)
 have:=h.len
 omega
def sceneIx (x:Sr) (no:List UInt8):Int:=idxP (fun y=>y.no == no && no != []) x.scenes
theorem story_script {x:Sr} (h:StoryOk x):ScriptOk x:=by
 have hl:=h.len
 have hs:=story_sum h
 have ht:=List.all_eq_true.1 title_all x.title h.title
 simp only [Bool.and_eq_true,decide_eq_true_eq] at ht
 refine ⟨ht.2,ht.1,by omega,by omega,?_⟩
 have key:∀ (l:List Sc) (i:Nat),i+l.length ≤ 5→(∀ j,(hj:j < l.length)→l[j].no=lastL (i+j+1)∧DrawnS ⟨[],l[j].place,l[j].set,l[j].time,l[j].paras⟩)→(i=0→∀ y,l.head? = some y→y.time ≠ 5)→okFrom (accN i) (decide (i=0)) l:=by
  intro l
  induction l with
  | nil=>intros; trivial
  | cons y r ih =>
   intro i hi hall h5
   simp only [List.length_cons] at hi
   obtain ⟨h1,h2⟩:=hall 0 (by simp)
   simp only [List.getElem_cons_zero,Nat.add_zero] at h1 h2
   have ha:=acc_new i (by omega)
   have hd:dd (accN i) y.no=accN (i+1):=by
    rw [h1,dd,if_neg ha.1]
    simp [accN,List.range_succ]
   refine ⟨.inr ?_,h2.place,h2.time,fun hf=>h5 (by simpa using hf) y rfl,?_,?_⟩
   ·rw [h1]; exact ⟨ha.2.1,ha.2.2,ha.1⟩
   ·have:=drawn_scene h2
    exact ⟨this.set,this.len,this.many,this.run⟩
   ·rw [hd]
    have:=ih (i+1) (by omega) (fun j hj=>by
     have:=hall (j+1) (by simpa using hj)
     simp only [List.getElem_cons_succ] at this
     rw [show i+1+j+1=i+(j+1)+1 by omega]
     exact this) (by simp)
    simpa using this
 have:=key x.scenes 0 (by omega) (fun j hj=>⟨by rw [Nat.zero_add]; exact h.no j hj,h.all j hj⟩) (fun _=>h.first)
 simpa [accN] using this
def scMF:Nat→List Sc→List (AV × AV)
 | _,[]=>[]
 | n,y :: r=>(.str y.no,.int .i64 n) :: scMF (n+1) r
theorem scMF_app:∀ (a b:List Sc) (n:Nat),scMF n (a++b)=scMF n a++scMF (n+a.length) b
 | [],b,n=>rfl
 | y :: a,b,n=>by simp only [List.cons_append,scMF,scMF_app a b (n+1),List.length_cons]; rw [show n+1+a.length=n+(a.length+1) by omega]
theorem scMF_none {k:List UInt8}:∀ (l:List Sc) (n m:Nat),(∀ y ∈ l,y.no ≠ k)→mfind .string (.str k) (scMF n l) m=some none
 | [],n,m,_=>rfl
 | y :: r,n,m,h=>by
  have:(k == y.no)=false:=by have:=h y (by simp); simpa using Ne.symm this
  simp only [scMF,mfind,keyEq,this]
  exact scMF_none r (n+1) (m+1) (fun z hz=>h z (by simp [hz]))
theorem scMF_find {k:List UInt8}:∀ (l:List Sc) (n m i:Nat) (hi:i < l.length),l[i].no=k→(∀ j,(hj:j < i)→(l[j]'(by omega)).no ≠ k)→mfind .string (.str k) (scMF n l) m=some (some (m+i,.int .i64 ((n+i:Nat):Int)))
 | [],n,m,i,hi,_,_=>by simp at hi
 | y :: r,n,m,0,hi,h,_=>by
  simp at h
  simp [scMF,mfind,keyEq,h]
 | y :: r,n,m,i+1,hi,h,hn=>by
  have h0:=hn 0 (by omega)
  simp only [List.getElem_cons_zero] at h0
  have:(k == y.no)=false:=by simpa using Ne.symm h0
  simp only [scMF,mfind,keyEq,this]
  rw [scMF_find r (n+1) (m+1) i (by simpa using hi) (by simpa using h) (fun j hj=>by simpa using hn (j+1) (by omega)),show m+1+i=m+(i+1) by omega,show n+1+i=n+(i+1) by omega]
theorem low_scM (n m:Nat) (l:List Sc):lowB n (.mp (scMF m l))=true:=by
 show (scMF m l).all _=true
 rw [List.all_eq_true]
 intro x hx
 have key:∀ (l:List Sc) (m:Nat),x ∈ scMF m l→∃ s i,x=(.str s,.int .i64 i):=by
  intro l
  induction l with
  | nil=>intro m h; simp [scMF] at h
  | cons y r ih =>
   intro m h
   simp only [scMF,List.mem_cons] at h
   rcases h with rfl | h
   ·exact ⟨_,_,rfl⟩
   ·exact ih _ h
 obtain ⟨s,i,rfl⟩:=key l m hx
 rfl
theorem places_ct0 (x:Sr) (hx:StoryOk x):Ct Tryz.prog 51 [srA x] [] (fun r s=>r=.mp 0∧s=[.mp (scMF 0 x.scenes)]):=by
 have hlen:=hx.len
 simp only [srA]
 refine ct_intro Tryz.func51 rfl Tryz.ntmps51 hB51 (by simp) fun h ρ w=>goB (N:=21) Tryz.ntmps51 300 ?_
 simp only [go_sem,List.length_map]
 refine aloop (ι:=Nat) (fun y=>x.scenes.length - y)
  (fun y=>[(10,.int .i64 y),(9,.int .i64 x.scenes.length),(8,.fz 5 (x.scenes.map scA)),(3,.mp 0)])
  (fun y=>[.mp (scMF 0 (x.scenes.take y))]) (fun y=>y ≤ x.scenes.length) 0 (by simp) ?_ ?_
 ·refine Shift.weakS ?_ rfl
  simp only [wk,go_sem,List.length_map]
 intro i g1 J hJ
 by_cases gi:i < x.scenes.length
 ·have di:decide ((i:Int) < (x.scenes.length:Int))=true:=by simp; omega
  have hget:=scA_get x.scenes i gi
  have m1:=scMF_none (k:=x.scenes[i].no) (x.scenes.take i) 0 0 (fun y hy=>by
   obtain ⟨j,hj,rfl⟩:=List.getElem_of_mem hy
   rw [List.length_take] at hj
   rw [List.getElem_take]
   intro e
   exact absurd (hx.inj (by omega) gi e) (by omega))
  have m2:scMF 0 (x.scenes.take i)++[(.str x.scenes[i].no,.int .i64 (i:Int))]=scMF 0 (x.scenes.take (i+1)):=by
   rw [List.take_add_one,List.getElem?_eq_getElem gi,scMF_app]
   simp only [Option.toList,scMF,List.length_take]
   rw [show min i x.scenes.length=i by omega,Nat.zero_add]
  have hfin:=hJ (i+1) (by omega) (by omega)
  generalize x.scenes[i]=y at *
  refine goB (N:=21) Tryz.ntmps51 300 ?_
  simp only [go_sem,di,hget,m1,m2,List.length_map]
  repeat refine And.intro (by first | omega | rfl | kernel_rfl | (simp; done) | (simp; omega)) ?_
  rw [show (i:Int)+1=((i+1:Nat):Int) by omega]
  refine ainv hfin (Shift.low 1 (by simp) (by simp) ?_ ?_)
  ·simp only [List.take_succ_cons,List.take_zero,List.all_cons,List.all_nil,↓low_scM,Bool.and_self]
  ·simp only [wkl,lowV,lowC,Av.get,go_sem]
 ·have di:decide ((i:Int) < (x.scenes.length:Int))=false:=by simp; omega
  rw [show x.scenes.take i=x.scenes from List.take_of_length_le (by omega)]
  refine goB (N:=21) Tryz.ntmps51 300 ?_
  simp only [go_sem,di]
  exact aret [2] rfl ⟨rfl,rfl⟩
theorem tagScript_pch {S:Std} (hS:LibOk S) (x:Sr) (hx:StoryOk x):PcH Tryz.prog S 102 [srA x] (· = .int .i64 0):=by
 have h1:=check_pch hS x (story_script hx)
 have hl:=hx.len
 simp only [srA] at h1 ⊢
 refine pch_intro (cth_intro Tryz.func102 rfl Tryz.ntmps102 hB102 (by simp) fun h ρ w hg=>goB (N:=22) Tryz.ntmps102 300 ?_)
 simp only [go_sem]
 refine pcallH1 hg (h1) rfl (N:=22) Tryz.ntmps102 rfl (goB (N:=22) Tryz.ntmps102 300 ?_)
 simp only [go_sem,List.length_map]
 refine aloop (ι:=Nat) (fun y=>x.scenes.length - y)
  (fun y=>[(14,.int .i64 y),(13,.int .i64 x.scenes.length),(12,.fz 5 (x.scenes.map scA))])
  (fun _=>[]) (fun y=>y ≤ x.scenes.length) 0 (by simp) ?_ ?_
 ·refine Shift.weak ?_
  simp only [wk,go_sem,List.length_map]
 intro i g1 J hJ
 by_cases gi:i < x.scenes.length
 ·have di:decide ((i:Int) < (x.scenes.length:Int))=true:=by simp; omega
  have hget:=scA_get x.scenes i gi
  have hno:(x.scenes[i].no == [])=false:=by
   rw [hx.no i gi]
   exact (no_facts i (by omega)).2.2.2.2
  have hfin:=hJ (i+1) (by omega) (by omega)
  generalize x.scenes[i]=y at *
  refine goB (N:=22) Tryz.ntmps102 300 ?_
  simp only [go_sem,di,hget,hno,List.length_map]
  repeat refine And.intro (by first | omega | rfl | kernel_rfl | (simp; done) | (simp; omega)) ?_
  rw [show (i:Int)+1=((i+1:Nat):Int) by omega]
  refine ainv hfin (Shift.low 0 (by simp) (by simp) rfl ?_)
  simp only [wkl,lowV,lowC,Av.get,go_sem]
 ·have di:decide ((i:Int) < (x.scenes.length:Int))=false:=by simp; omega
  refine goB (N:=22) Tryz.ntmps102 300 ?_
  simp only [go_sem,di]
  exact aret [2] rfl ⟨rfl,rfl⟩
def smallSet:List UInt8:=[97,98,99,100,101,102,103,104,105,106,107,108,109,110,111,112,113,114,115,116,117,118,119,120,121,122]
def thingSet:List UInt8:=[97,98,99,100,101,102,103,104,105,106,107,108,109,110,111,112,113,114,115,116,117,118,119,120,121,122,48,49,50,51,52,53,54,55,56,57,32]
def thingR (s:List UInt8):Bool:=longR s 1 40 && (plainR s && madeR s thingSet)
def facetR (s:List UInt8):Bool:=longR s 1 20 && madeR s smallSet
structure FaSz (f:Fa):Prop where
 name:f.el.name.length < 1000
 facet:f.facet.length < 1000
 value:f.value.length < 1000
 scene:f.scene.length < 1000
end Go.Proofs.YtnfkjpihaficbaaGreatDoor
