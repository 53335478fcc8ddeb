/- Draws of the tags' rows: facts. Own work of this seat. -/
import Derived.Test.YtnfkjpihaficbaaGreatDoorG31
import Derived.Test.YtnfkjpihaficbaaGreatDoorG23
set_option maxRecDepth 100000
set_option linter.unusedSimpArgs false
set_option linter.unusedVariables false
namespace Go.Proofs.YtnfkjpihaficbaaGreatDoor
open Go Go.Av Go.RowKit
def faA (f:Fa):AV:=.agg [.str f.scene,.int .i64 f.el.kind,.str f.el.name,.str f.facet,.str f.value]
theorem faA_get (l:List Fa) (i:Nat) (h:i < l.length):List.getD (List.map faA l) i .any=.agg [.str l[i].scene,.int .i64 l[i].el.kind,.str l[i].el.name,.str l[i].facet,.str l[i].value]:=by simp [List.getD,h,faA]
theorem fa_frz:∀ l:List Fa,(flat (l.map faA)).all Av.frozen=true
 | []=>rfl
 | x :: r=>by simpa [flat,cellsOf,faA,Av.frozen] using fa_frz r
def sameFa (y f:Fa):Bool:=y.scene == f.scene && (y.el == f.el && y.facet == f.facet)
theorem el_beq (a b:El):(a == b)=(a.kind == b.kind && a.name == b.name):=by
 cases a; cases b
 rw [Bool.eq_iff_iff]
 simp
theorem idxFa_pc (f:FuncId) (caps:List AV) (hc:caps.all frozen0=true) (p:Fa→Bool) (l:List Fa) (hl:l.length < 100000000) (hf:∀ x ∈ l,Pc Tryz.prog f (faA x :: caps) (· = .bool (p x))) :
  Pc Tryz.prog 163 [.fz 5 (l.map faA),.fn (.func f) caps] (· = .int .i64 (idxP p l)):=by
 refine pc_intro (ct_intro Tryz.func163 rfl Tryz.ntmps163 hB163 (by simp) fun h ρ w=>goB (N:=19) Tryz.ntmps163 300 ?_)
 simp only [go_sem]
 refine aloop (ι:=Nat) (fun i=>l.length - i) (fun i=>[(8,.int .i64 i),(7,.int .i64 l.length),(1,.fn (.func f) caps),(0,.fz 5 (l.map faA))]) (fun _=>[]) (fun i=>i ≤ l.length∧∀ j,(hj:j < l.length)→j < i→p l[j]=false) 0 ⟨by simp,fun j _ h=>absurd h (by omega)⟩ ?_ ?_
 ·refine Shift.weak ?_
  simp only [wk,go_sem,List.length_map]
 ·rintro i ⟨g1,g2⟩ J hJ
  by_cases gi:i < l.length
  ·have di:decide ((i:Int) < (l.length:Int))=true:=by simp; omega
   have hfx:=hf _ (List.getElem_mem gi)
   simp only [faA] at hfx
   refine goB (N:=19) Tryz.ntmps163 300 ?_
   simp only [go_sem,di,faA_get l i gi,List.length_map]
   repeat refine And.intro (by first | omega | rfl | (simp; omega)) ?_
   cases hp:p l[i] with
   | true =>
    rw [hp] at hfx
    refine pcall1 hfx (nr1_cons rfl hc) (N:=19) Tryz.ntmps163 rfl (goB (N:=19) Tryz.ntmps163 300 ?_)
    simp only [go_sem]
    exact aret [4] rfl ⟨congrArg _ (idxP_some gi hp fun j hj=>g2 j (by omega) hj).symm,rfl⟩
   | false =>
    rw [hp] at hfx
    refine pcall1 hfx (nr1_cons rfl hc) (N:=19) Tryz.ntmps163 rfl (goB (N:=19) Tryz.ntmps163 300 ?_)
    simp only [go_sem]
    repeat refine And.intro (by first | omega | rfl) ?_
    rw [show (i:Int)+1=((i+1:Nat):Int) by omega]
    refine ainv (hJ (i+1) ⟨by omega,fun j hj h=>?_⟩ (by omega)) (Shift.weak ?_)
    ·rcases Nat.lt_or_ge j i with h2 | h2
     ·exact g2 j hj h2
     ·have:j=i:=by omega
      subst this; exact hp
    ·simp only [wk,go_sem]
  ·have di:decide ((i:Int) < (l.length:Int))=false:=by simp; omega
   refine goB (N:=19) Tryz.ntmps163 300 ?_
   simp only [go_sem,di]
   exact aret [4] rfl ⟨congrArg _ (idxP_none fun j hj=>g2 j hj (by omega)).symm,rfl⟩
theorem anyFa_pc (f:FuncId) (caps:List AV) (hc:caps.all frozen0=true) (p:Fa→Bool) (l:List Fa) (hl:l.length < 100000000) (hf:∀ x ∈ l,Pc Tryz.prog f (faA x :: caps) (· = .bool (p x))) :
  Pc Tryz.prog 114 [.fz 5 (l.map faA),.fn (.func f) caps] (· = .bool (l.any p)):=by
 refine pc_intro (ct_intro Tryz.func114 rfl Tryz.ntmps114 hB114 (by simp) fun h ρ w=>goB (N:=9) Tryz.ntmps114 300 ?_)
 simp only [go_sem]
 refine pcall1 (idxFa_pc f caps hc p l hl hf) (by simp only [List.all_cons,List.all_nil,nr1,Av.frozen,hc,Bool.and_self]) (N:=9) Tryz.ntmps114 rfl (goB (N:=9) Tryz.ntmps114 300 ?_)
 simp only [go_sem]
 refine aret [4] rfl ⟨?_,rfl⟩
 simp only [resV,Av.get,Av.put,cond_true,beq_self_eq_true]
 rw [← idxP_any]
theorem faFn_pc (y f:Fa):Pc Tryz.prog 115 [faA y,.pin 5 [faA f] 0 0] (· = .bool (sameFa y f)):=by
 simp only [faA,sameFa,el_beq]
 refine pc_intro (ct_intro Tryz.func115 rfl Tryz.ntmps115 hB115 (by simp) fun h ρ w=>goB (N:=23) Tryz.ntmps115 300 ?_)
 cases e1:y.scene == f.scene with
 | false =>
  simp only [go_sem,e1]
  exact aret [3] rfl ⟨by simp [resV,Av.get,Av.put],rfl⟩
 | true =>
  cases e2:(y.el.kind == f.el.kind && y.el.name == f.el.name) with
  | false =>
   simp only [go_sem,e1,e2]
   repeat refine And.intro (by first | kernel_rfl | rfl) ?_
   exact aret [3] rfl ⟨by simp [resV,Av.get,Av.put],rfl⟩
  | true =>
   simp only [go_sem,e1,e2]
   repeat refine And.intro (by first | kernel_rfl | rfl) ?_
   exact aret [3] rfl ⟨by simp [resV,Av.get,Av.put],rfl⟩
theorem faFnR_pc (y f:Fa):Pc Tryz.prog 120 [faA y,.pin 5 [faA f] 0 0] (· = .bool (sameFa y f)):=by
 simp only [faA,sameFa,el_beq]
 refine pc_intro (ct_intro Tryz.func120 rfl Tryz.ntmps120 hB120 (by simp) fun h ρ w=>goB (N:=23) Tryz.ntmps120 300 ?_)
 cases e1:y.scene == f.scene with
 | false =>
  simp only [go_sem,e1]
  exact aret [3] rfl ⟨by simp [resV,Av.get,Av.put],rfl⟩
 | true =>
  cases e2:(y.el.kind == f.el.kind && y.el.name == f.el.name) with
  | false =>
   simp only [go_sem,e1,e2]
   repeat refine And.intro (by first | kernel_rfl | rfl) ?_
   exact aret [3] rfl ⟨by simp [resV,Av.get,Av.put],rfl⟩
  | true =>
   simp only [go_sem,e1,e2]
   repeat refine And.intro (by first | kernel_rfl | rfl) ?_
   exact aret [3] rfl ⟨by simp [resV,Av.get,Av.put],rfl⟩
def FcA:List (List UInt8):=[[99,111,97,116],[102,97,99,101],[99,111,97,116]]
def VlA:List (List UInt8):=[[114,101,100],[98,108,117,101],[],[97,32,47,32,98]]
def FcB:List (List UInt8):=[[],[67,111,97,116],[97,32,98]]
def VlB:List (List UInt8):=[[32,97],[118,118,118,118,118,118,118,118,118,118,118,118,118,118,118,118,118,118,118,118,118,118,118,118,118,118,118,118,118,118,118,118,118,118,118,118,118,118,118,118,118,118,118,118,118,118,118,118,118,118,118,118,118,118,118,118,118,118,118,118],[118,118,118,118,118,118,118,118,118,118,118,118,118,118,118,118,118,118,118,118,118,118,118,118,118,118,118,118,118,118,118,118,118,118,118,118,118,118,118,118,118,118,118,118,118,118,118,118,118,118,118,118,118,118,118,118,118,118,118,118,118]]
def fcF (L:List Int) (k:Int):List UInt8 × Int:=if flipF L (k+1+1) 15 then (oneF L (k+1+1+1) FcB,k+1+1+1+1) else (oneF L k FcA,k+1+1+1)
def vlF (L:List Int) (k kk:Int):List UInt8 × Int:=if flipF L kk 15 then (oneF L (kk+1) VlB,kk+1+1) else (oneF L (k+1) VlA,kk+1)
def faF (L:List Int) (x:Sr) (k:Int):Fa × Int :=
 (⟨(noF L k x).1,(elF L (noF L k x).2).1,(fcF L (elF L (noF L k x).2).2).1,(vlF L (elF L (noF L k x).2).2 (fcF L (elF L (noF L k x).2).2).2).1⟩,(vlF L (elF L (noF L k x).2).2 (fcF L (elF L (noF L k x).2).2).2).2)
theorem fcF_bd (L:List Int) (k:Int):k ≤ (fcF L k).2∧(fcF L k).2 ≤ k+4∧(fcF L k).1 ∈ FcA++FcB:=by
 unfold fcF
 split
 ·exact ⟨by simp only; omega,by simp only; omega,List.mem_append_right _ (oneF_mem (by decide))⟩
 ·exact ⟨by simp only; omega,by simp only; omega,List.mem_append_left _ (oneF_mem (by decide))⟩
theorem vlF_bd (L:List Int) (k kk:Int):kk ≤ (vlF L k kk).2∧(vlF L k kk).2 ≤ kk+2∧(vlF L k kk).1 ∈ VlA++VlB:=by
 unfold vlF
 split
 ·exact ⟨by simp only; omega,by simp only; omega,List.mem_append_right _ (oneF_mem (by decide))⟩
 ·exact ⟨by simp only; omega,by simp only; omega,List.mem_append_left _ (oneF_mem (by decide))⟩
def faStep (L:List Int) (x:Sr) (st:List Fa × Int):List Fa × Int :=
 if st.1.any (fun y=>sameFa y (faF L x st.2).1) then
  (if flipF L (faF L x st.2).2 15 then (st.1++[(faF L x st.2).1],(faF L x st.2).2+1) else (st.1,(faF L x st.2).2+1))
 else (st.1++[(faF L x st.2).1],(faF L x st.2).2)
theorem faF_bd (L:List Int) (x:Sr) (k:Int):k ≤ (faF L x k).2∧(faF L x k).2 ≤ k+12:=by
 have h1:=noF_bd L k x
 have h2:=elF_bd L (noF L k x).2
 have h3:=fcF_bd L (elF L (noF L k x).2).2
 have h4:=vlF_bd L (elF L (noF L k x).2).2 (fcF L (elF L (noF L k x).2).2).2
 exact ⟨by simp only [faF]; omega,by simp only [faF]; omega⟩
theorem faStep_bd (L:List Int) (x:Sr) (st:List Fa × Int):st.2 ≤ (faStep L x st).2∧(faStep L x st).2 ≤ st.2+13∧(faStep L x st).1.length ≤ st.1.length+1:=by
 have:=faF_bd L x st.2
 unfold faStep
 repeat (first | split | exact ⟨by simp only; omega,by simp only; omega,by simp⟩)
def faRun (L:List Int) (x:Sr) (k:Int):Nat→List Fa × Int
 | 0=>([],k)
 | n+1=>faStep L x (faRun L x k n)
theorem faRun_bd (L:List Int) (x:Sr) (k:Int):∀ n,k ≤ (faRun L x k n).2∧(faRun L x k n).2 ≤ k+13 * n∧(faRun L x k n).1.length ≤ n
 | 0=>⟨by simp [faRun],by simp [faRun],by simp [faRun]⟩
 | n+1=>by
  obtain ⟨h1,h2,h3⟩:=faRun_bd L x k n
  obtain ⟨a1,a2,a3⟩:=faStep_bd L x (faRun L x k n)
  simp only [faRun]
  exact ⟨by omega,by omega,by omega⟩
def factsF (L:List Int) (k:Int) (x:Sr):List Fa × Int:=faRun L x (k+1) (nx L k 8).toNat
theorem factsF_bd (L:List Int) (k:Int) (x:Sr):k ≤ (factsF L k x).2∧(factsF L k x).2 ≤ k+200∧(factsF L k x).1.length ≤ 8:=by
 have hb:=nx_bd L k 8 (by decide)
 obtain ⟨h1,h2,h3⟩:=faRun_bd L x (k+1) (nx L k 8).toNat
 unfold factsF
 exact ⟨by omega,by omega,by omega⟩
theorem title_all:(TitleL.all fun t=>plainL t && (decide (1 ≤ t.length) && decide (t.length ≤ 60)))=true:=by decide +kernel
theorem set_all:(SetL.all fun t=>isSetL t && decide (t.length < 1000000))=true:=by decide +kernel
theorem drawn_scene {x:Sc} (h:DrawnS x):SceneOk x:=by
 have:=List.all_eq_true.1 set_all x.set h.set
 simp only [Bool.and_eq_true,decide_eq_true_eq] at this
 exact ⟨this.1,this.2,by have:=h.len; omega,h.run⟩
theorem sum_le:∀ (l:List Sc),(∀ y ∈ l,y.paras.length ≤ 60)→paraSum l ≤ 60 * l.length
 | [],_=>by simp [paraSum]
 | x :: r,h=>by
  have h1:=h x (by simp)
  have h2:=sum_le r (fun y hy=>h y (by simp [hy]))
  simp only [paraSum,List.map_cons,List.sum_cons,List.length_cons] at h2 ⊢
  omega
def accN (i:Nat):List (List UInt8):=(List.range i).map fun j=>lastL (j+1)
theorem acc_new:∀ i,i < 5→lastL (i+1) ∉ accN i∧numberL (lastL (i+1))=true∧(lastL (i+1)).length < 1000000:=by
 have h:∀ i:Fin 5,lastL (i.1+1) ∉ accN i.1∧numberL (lastL (i.1+1))=true∧(lastL (i.1+1)).length < 1000000:=by decide +kernel
 exact fun i hi=>h ⟨i,hi⟩
end Go.Proofs.YtnfkjpihaficbaaGreatDoor
set_option linter.unusedSectionVars false
namespace Go.Av
open Go Go.RowKit
variable [Tr]
theorem acut {c:Cx} {x:It} {B:Code} {k:List It} {e:Env} {s:List Blk} {ι:Type} (E:ι→Env) (S:ι→List Blk) (H:ι→Prop)
  (h1:∀ J:Act→World→Prop,(∀ y,H y→∀ a w,Sim c (E y) (S y) a w→J a w)→AWp c (x :: .inv J :: k) e s)
  (h2:∀ y,H y→AWp c (.code B :: k) (E y) (S y)):AWp c (x :: .code B :: k) e s:=by
 intro a w hs
 have h:=h1 (fun a w=>B.wp c.P (WQ c k) a w) (fun y hy a w hs=>h2 y hy a w hs) a w hs
 have e1:WQ c (.inv (fun a w=>B.wp c.P (WQ c k) a w) :: k)=WQ c (.code B :: k):=by
  funext en a w
  cases en <;> rfl
 have e2:WQ c (x :: .inv (fun a w=>B.wp c.P (WQ c k) a w) :: k)=WQ c (x :: .code B :: k):=by
  funext en a w
  cases en <;> simp only [WQ,e1]
 rw [e2] at h
 exact h
end Go.Av
namespace Go.Proofs.YtnfkjpihaficbaaGreatDoor
open Go Go.Av Go.RowKit
structure StoryOk (x:Sr):Prop where
 title:x.title ∈ TitleL
 len:x.scenes.length ≤ 5
 no:∀ i,(h:i < x.scenes.length)→x.scenes[i].no=lastL (i+1)
 all:∀ i,(h:i < x.scenes.length)→DrawnS ⟨[],x.scenes[i].place,x.scenes[i].set,x.scenes[i].time,x.scenes[i].paras⟩
 first:∀ y,x.scenes.head? = some y→y.time ≠ 5
theorem story_ok {x:Sr} (h:DrawnR x):StoryOk (numR x):=by
 have hg:∀ i,(hi:i < (numR x).scenes.length)→∃ (h2:i < x.scenes.length),(numR x).scenes[i]=nm i x.scenes[i]:=fun i hi=>by
  simp only [numR,numL_len] at hi
  refine ⟨hi,?_⟩
  have:=numL_get x.scenes 0 i hi
  simp only [Nat.zero_add] at this
  exact (List.getElem?_eq_some_iff.1 this).2
 refine ⟨h.title,by simp only [numR,numL_len]; exact h.len,fun i hi=>?_,fun i hi=>?_,fun y hy=>?_⟩
 ·obtain ⟨h2,e⟩:=hg i hi
  rw [e]
  exact num_last i (by have:=h.len; omega)
 ·obtain ⟨h2,e⟩:=hg i hi
  rw [e]
  have hd:=h.all _ (List.getElem_mem h2)
  exact ⟨rfl,hd.place,hd.set,hd.time,hd.run,hd.len,hd.all⟩
 ·have:=h.first
  obtain ⟨ti,xs⟩:=x
  cases xs with
  | nil=>simp [numR,numL] at hy
  | cons a r =>
   simp only [numR,numL,List.head?_cons,Option.some.injEq] at hy
   rw [← hy]
   exact this a rfl
theorem no_facts (i:Nat) (hi:i < 5):Lib.trimLeftS (lastL (i+1)) DIG=[]∧1 ≤ (lastL (i+1)).length∧(lastL (i+1)).length ≤ 3∧(lastL (i+1)).getD 0 0 ≠ 48∧(lastL (i+1) == [])=false:=by
 have h:∀ i:Fin 5,Lib.trimLeftS (lastL (i.1+1)) DIG=[]∧1 ≤ (lastL (i.1+1)).length∧(lastL (i.1+1)).length ≤ 3∧(lastL (i.1+1)).getD 0 0 ≠ 48∧(lastL (i.1+1) == [])=false:=by decide +kernel
 exact h ⟨i,hi⟩
theorem no_ne (i j:Nat) (hi:i < 5) (hj:j < 5) (h:i ≠ j):lastL (i+1) ≠ lastL (j+1):=by
 have h':∀ i j:Fin 5,i.1 ≠ j.1→lastL (i.1+1) ≠ lastL (j.1+1):=by decide +kernel
 exact h' ⟨i,hi⟩ ⟨j,hj⟩ h
theorem set_bd:∀ s ∈ SetL,s.length < 1000:=by decide
theorem title_bd:∀ s ∈ TitleL,1 ≤ s.length∧s.length ≤ 60:=by decide
theorem StoryOk.inj {x:Sr} (h:StoryOk x) {i j:Nat} (hi:i < x.scenes.length) (hj:j < x.scenes.length) (e:x.scenes[i].no=x.scenes[j].no):i=j:=by
 rw [h.no i hi,h.no j hj] at e
 have:=h.len
 exact Classical.byContradiction fun hn=>no_ne i j (by omega) (by omega) hn e
theorem headR_pch {S:Std} (hS:LibR S) (x:Sc) (i:Nat) (hi:i < 5) (hno:x.no=lastL (i+1)) (hp:1 ≤ x.place∧x.place ≤ 3) (ht:1 ≤ x.time∧x.time ≤ 5) (hs:x.set.length < 1000) :
  PcH Tryz.prog S 268 [scA x] (· = .int .i64 (if setR x.set then 0 else 3)):=by
 obtain ⟨a1,a2,a3,a4,a5⟩:=no_facts i hi
 rw [← hno] at a1 a2 a3 a4 a5
 have e0:(x.no != [])=true:=by rw [bne,a5]; rfl
 have hn:=numberOf_pc x.no a1 a2 a3 a4
 have e1:decide (x.place < 1)=false:=by simp; omega
 have e2:decide (x.place > 3)=false:=by simp; omega
 have e3:decide (x.time < 1)=false:=by simp; omega
 have e4:decide (x.time > 5)=false:=by simp; omega
 have hset:=setR_pch hS x.set (by omega)
 simp only [scA]
 refine pch_intro (cth_intro Tryz.func268 rfl Tryz.ntmps268 hB268 (by simp) fun h ρ w hg=>goB (N:=37) Tryz.ntmps268 300 ?_)
 simp only [go_sem,e0]
 refine pcall1 (hn) rfl (N:=37) Tryz.ntmps268 rfl (goB (N:=37) Tryz.ntmps268 300 ?_)
 simp only [go_sem,e1,e2,e3,e4]
 refine pcallH1 hg (hset) rfl (N:=37) Tryz.ntmps268 rfl (goB (N:=37) Tryz.ntmps268 300 ?_)
 cases e5:setR x.set with
 | false =>
  simp only [go_sem]
  exact aret [2] rfl ⟨rfl,rfl⟩
 | true =>
  simp only [go_sem]
  exact aret [2] rfl ⟨rfl,rfl⟩
theorem sameNo_pc (x y:Sc):Pc Tryz.prog 269 [scA x,.pin 5 [scA y] 0 0] (· = .bool (x.no == y.no)):=by
 simp only [scA]
 refine pc_intro (ct_intro Tryz.func269 rfl Tryz.ntmps269 hB269 (by simp) fun h ρ w=>goB (N:=9) Tryz.ntmps269 300 ?_)
 simp only [go_sem]
 exact aret [3] rfl ⟨rfl,rfl⟩
def parasR:List Pa→Int
 | []=>0
 | p :: r=>if paraR p != 0 then paraR p else parasR r
def sceneR (x:Sc):Int:=if setR x.set then parasR x.paras else 3
set_option maxHeartbeats 2000000 in
theorem sceneR_pch {S:Std} (hS:LibR S) (x:Sr) (hx:StoryOk x) (k:Nat) (hk:k < x.scenes.length):PcH Tryz.prog S 224 [.fz 5 (x.scenes.map scA),.int .i64 k] (· = .int .i64 (sceneR x.scenes[k])):=by
 have hlen:=hx.len
 have hd:=hx.all k hk
 have hno:=hx.no k hk
 obtain ⟨a1,a2,a3,a4,a5⟩:=no_facts k (by omega)
 rw [← hno] at a1 a2 a3 a4 a5
 have e0:(x.scenes[k].no != [])=true:=by rw [bne,a5]; rfl
 have hh:=headR_pch hS x.scenes[k] k (by omega) hno hd.place hd.time (set_bd _ hd.set)
 have hnew:(x.scenes.take k).any (fun y=>y.no == x.scenes[k].no)=false:=by
  rw [List.any_eq_false]
  intro y hy
  obtain ⟨j,hj,rfl⟩:=List.getElem_of_mem hy
  rw [List.length_take] at hj
  rw [List.getElem_take]
  simp only [beq_iff_eq]
  exact fun e=>absurd (hx.inj (by omega) hk e) (by omega)
 have hany:=anySc_pc 269 [.pin 5 [scA x.scenes[k]] 0 0] rfl (fun y=>y.no == x.scenes[k].no) (x.scenes.take k) (by rw [List.length_take]; omega) (fun y _=>sameNo_pc y x.scenes[k])
 rw [hnew,List.map_take] at hany
 have hft:((k:Int) == 0)=false∨(x.scenes[k].time == 5)=false:=by
  by_cases h0:k=0
  ·subst h0
   right
   have:=hx.first x.scenes[0] (by rw [List.head?_eq_getElem?,List.getElem?_eq_getElem hk])
   simpa using this
  ·left; simp; omega
 obtain ⟨e,hr,h2,h3⟩:=hd.run
 simp only at hr
 have hget:=scA_get x.scenes k hk
 have hres:(if setR x.scenes[k].set then parasR x.scenes[k].paras else 3)=sceneR x.scenes[k]:=rfl
 have hm:=hd.len
 simp only at hm
 generalize hsc:x.scenes[k]=sc at *
 rw [← hres]
 have hbor:=Ct.borrowF (P:=Tryz.prog) (f:=165) (args:=[.fz 5 (List.take k (x.scenes.map scA)),.fn (.func 269) [.ptr 0 1 0 0]]) 1 [.arr 5 [scA sc]] (post:=(· = .bool false)) hany (by rintro r rfl; rfl)
 simp only [scA] at hbor hh
 have hk2:decide ((k:Int) ≤ (x.scenes.length:Int))=true:=by simp; omega
 refine pch_intro (cth_intro Tryz.func224 rfl Tryz.ntmps224 hB224 (by simp) fun h ρ w hg=>goB (N:=65) Tryz.ntmps224 300 ?_)
 simp only [go_sem,hget,List.length_map]
 repeat refine And.intro (by first | omega | rfl | (simp; done) | (simp; omega)) ?_
 refine pcallH1 hg (hh) rfl (N:=65) Tryz.ntmps224 rfl (goB (N:=65) Tryz.ntmps224 300 ?_)
 have hq:(((k:Int) == 0)=true∧(sc.time == 5)=false)∨(((k:Int) == 0)=false∧True):=by
  cases h0:((k:Int) == 0) with
  | true =>
   rw [h0] at hft
   exact .inl ⟨rfl,hft.resolve_left (by simp)⟩
  | false=>exact .inr ⟨rfl,trivial⟩
 rcases hq with ⟨q1,q2⟩ | ⟨q1,q2⟩ <;>
 ·cases e5:setR sc.set with
  | false =>
   simp only [Bool.false_eq_true,if_false]
   simp only [go_sem,e0,hk2]
   repeat refine And.intro (by first | omega | rfl | (simp; done) | (simp; omega)) ?_
   refine acall (hbor) (N:=65) Tryz.ntmps224 rfl ?_
   rintro _ _ ⟨rfl,rfl⟩
   refine goB (N:=65) Tryz.ntmps224 300 ?_
   simp only [go_sem,q1,q2]
   exact aret [4] rfl ⟨rfl,rfl⟩
  | true =>
   simp only [if_true]
   simp only [go_sem,e0,hk2]
   repeat refine And.intro (by first | omega | rfl | (simp; done) | (simp; omega)) ?_
   refine acall (hbor) (N:=65) Tryz.ntmps224 rfl ?_
   rintro _ _ ⟨rfl,rfl⟩
   refine goB (N:=65) Tryz.ntmps224 300 ?_
   simp only [go_sem,q1,q2]
   refine aloop (ι:=Nat × Int) (fun y=>sc.paras.length - y.1)
    (fun y=>[(46,.int .i64 y.1),(45,.int .i64 sc.paras.length),(44,.fz 2 (sc.paras.map paA)),(7,.int .i64 y.2)])
    (fun _=>[.arr 5 [.agg [.str sc.no,.int .i64 sc.place,.str sc.set,.int .i64 sc.time,.fz 2 (sc.paras.map paA)]]])
    (fun y=>y.1 ≤ sc.paras.length∧runL y.2 (sc.paras.drop y.1)=some e∧parasR (sc.paras.drop y.1)=parasR sc.paras) (0,0) ⟨by simp,hr,by simp⟩ ?_ ?_
   ·refine Shift.weakS ?_ rfl
    simp only [wk,go_sem,List.length_map]
   ·rintro ⟨i,l⟩ ⟨g1,g2,g3⟩ J hJ
    simp only at g1 g2 g3 hJ ⊢
    by_cases gi:i < sc.paras.length
    ·have di:decide ((i:Int) < (sc.paras.length:Int))=true:=by simp; omega
     have hdr:sc.paras.drop i=sc.paras[i] :: sc.paras.drop (i+1):=List.drop_eq_getElem_cons gi
     rw [hdr] at g2 g3
     simp only [runL] at g2
     split at g2
     rotate_left
     ·cases g2
     rename_i hp
     simp only [Bool.and_eq_true] at hp
     have hpf:=paraR_pch hS sc.paras[i] l hp.1 hp.2
     simp only [paA] at hpf
     simp only [parasR] at g3
     refine goB (N:=65) Tryz.ntmps224 300 ?_
     simp only [go_sem,di,paA_get sc.paras i gi,List.length_map]
     repeat refine And.intro (by first | omega | rfl | (simp; done) | (simp; omega)) ?_
     refine pcallH1 hg (hpf) rfl (N:=65) Tryz.ntmps224 rfl (goB (N:=65) Tryz.ntmps224 300 ?_)
     cases e6:paraR sc.paras[i] != 0 with
     | true =>
      rw [e6] at g3
      simp only [go_sem,e6]
      exact aret [4] rfl ⟨by rw [← g3]; rfl,rfl⟩
     | false =>
      rw [e6] at g3
      simp only [go_sem,e6]
      repeat refine And.intro (by first | omega | rfl | (simp; done) | (simp; omega)) ?_
      rw [show (i:Int)+1=((i+1:Nat):Int) by omega]
      refine ainv (hJ (i+1,sc.paras[i].kind) ⟨by simp only; omega,g2,g3⟩ (by simp only; omega)) (Shift.low 1 (by simp) (by simp) ?_ ?_)
      ·simp only [List.take_succ_cons,List.take_zero,List.all_cons,List.all_nil,lowB,flat,cellsOf,lowC,Av.frozen,List.append_nil,Bool.and_self]
      ·simp only [wkl,lowV,lowC,Av.get,go_sem]
    ·have di:decide ((i:Int) < (sc.paras.length:Int))=false:=by simp; omega
     have:i=sc.paras.length:=by omega
     subst this
     rw [List.drop_length] at g2 g3
     simp only [runL,Option.some.injEq] at g2
     subst g2
     have q2:(l == 2)=false:=by simpa using h2
     have q3:(l == 3)=false:=by simpa using h3
     refine goB (N:=65) Tryz.ntmps224 300 ?_
     simp only [go_sem,di,q2,q3]
     exact aret [4] rfl ⟨by rw [← g3]; rfl,rfl⟩
def scenesR:List Sc→Int
 | []=>0
 | x :: r=>if sceneR x != 0 then sceneR x else scenesR r
def scriptR (x:Sr):Int:=if plainR x.title then scenesR x.scenes else 3
theorem story_sum {x:Sr} (h:StoryOk x):paraSum x.scenes ≤ 300:=by
 have h1:=sum_le x.scenes (fun z hz=>by
  obtain ⟨i,hi,rfl⟩:=List.getElem_of_mem hz
  exact (h.all i hi).len)
 have:=h.len
 omega
set_option maxHeartbeats 2000000 in
theorem scriptR_pch {S:Std} (hS:LibR S) (x:Sr) (hx:StoryOk x):PcH Tryz.prog S 164 [srA x] (· = .int .i64 (scriptR x)):=by
 have htb:=title_bd _ hx.title
 have hlen:=hx.len
 have hsum:=story_sum hx
 have h1:=longR_pc x.title 1 60
 have hl:longR x.title 1 60=true:=by simp [longR]; omega
 rw [hl] at h1
 have h2:=plainR_pch hS x.title (by omega)
 have hsf:=fun k hk=>sceneR_pch hS x hx k hk
 have hres:(if plainR x.title then scenesR x.scenes else 3)=scriptR x:=rfl
 rw [← hres]
 obtain ⟨ti,xs⟩:=x
 simp only at htb hlen hsum h1 h2 hsf ⊢
 simp only [srA]
 refine pch_intro (cth_intro Tryz.func164 rfl Tryz.ntmps164 hB164 (by simp) fun h ρ w hg=>goB (N:=53) Tryz.ntmps164 300 ?_)
 simp only [go_sem]
 refine pcall1 (h1) rfl (N:=53) Tryz.ntmps164 rfl (goB (N:=53) Tryz.ntmps164 300 ?_)
 simp only [go_sem]
 refine pcallH1 hg (h2) rfl (N:=53) Tryz.ntmps164 rfl (goB (N:=53) Tryz.ntmps164 300 ?_)
 cases e1:plainR ti with
 | false =>
  simp only [go_sem]
  exact aret [2] rfl ⟨rfl,rfl⟩
 | true =>
  simp only [if_true]
  simp only [go_sem]
  refine aloop (ι:=Nat) (fun i=>xs.length - i)
   (fun i=>[(21,.int .i64 i),(20,.int .i64 xs.length),(19,.fz 5 (xs.map scA)),(3,.int .i64 (paraSum (xs.take i))),(1,.pin 2 [.agg [.str ti,.fz 5 (xs.map scA)]] 0 0)])
   (fun _=>[]) (fun i=>i ≤ xs.length) 0 (by simp) ?_ ?_
  ·refine Shift.weakS ?_ rfl
   simp only [wk,go_sem,List.length_map]
   simp [paraSum]
  ·intro i g1 J hJ
   by_cases gi:i < xs.length
   ·have di:decide ((i:Int) < (xs.length:Int))=true:=by simp; omega
    have hs:=paraSum_take xs i gi
    have hle:=paraSum_take_le xs (i+1)
    refine goB (N:=53) Tryz.ntmps164 300 ?_
    simp only [go_sem,di,scA_get xs i gi,List.length_map]
    repeat refine And.intro (by first | omega | rfl | (simp; done) | (simp; omega)) ?_
    rw [show (paraSum (xs.take i):Int)+(xs[i].paras.length:Int)=(paraSum (xs.take (i+1)):Int) by omega,show (i:Int)+1=((i+1:Nat):Int) by omega]
    refine ainv (hJ (i+1) (by omega) (by omega)) (Shift.low 0 (by simp) (by simp) ?_ ?_)
    ·simp only [List.take_zero,List.all_nil]
    ·simp only [wkl,lowV,lowC,Av.get,go_sem]
   ·have di:decide ((i:Int) < (xs.length:Int))=false:=by simp; omega
    have:i=xs.length:=by omega
    subst this
    rw [List.take_length]
    have d3:decide ((xs.length:Int) > 300)=false:=by simp; omega
    have d4:decide ((paraSum xs:Int) > 4000)=false:=by simp; omega
    refine goB (N:=53) Tryz.ntmps164 300 ?_
    simp only [go_sem,di,d3,d4,List.length_map]
    refine aloop (ι:=Nat) (fun y=>xs.length - y)
     (fun y=>[(42,.int .i64 y),(41,.int .i64 xs.length),(1,.pin 2 [.agg [.str ti,.fz 5 (xs.map scA)]] 0 0)])
     (fun y=>[]) (fun y=>y ≤ xs.length∧scenesR (xs.drop y)=scenesR xs) 0 ⟨by simp,by simp⟩ ?_ ?_
    ·refine Shift.weakS ?_ rfl
     simp only [wk,go_sem]
    ·clear hJ J
     rintro i ⟨g1,g2⟩ J hJ
     by_cases gi:i < xs.length
     ·have di:decide ((i:Int) < (xs.length:Int))=true:=by simp; omega
      have hd:xs.drop i=xs[i] :: xs.drop (i+1):=List.drop_eq_getElem_cons gi
      rw [hd] at g2
      simp only [scenesR] at g2
      refine goB (N:=53) Tryz.ntmps164 300 ?_
      simp only [go_sem,di]
      refine pcallH1 hg (hsf i gi) rfl (N:=53) Tryz.ntmps164 rfl (goB (N:=53) Tryz.ntmps164 300 ?_)
      cases e6:sceneR xs[i] != 0 with
      | true =>
       rw [e6] at g2
       simp only [go_sem,e6]
       exact aret [2] rfl ⟨by rw [← g2]; rfl,rfl⟩
      | false =>
       rw [e6] at g2
       simp only [go_sem,e6]
       repeat refine And.intro (by first | omega | rfl | (simp; done) | (simp; omega)) ?_
       rw [show (i:Int)+1=((i+1:Nat):Int) by omega]
       refine ainv (hJ (i+1) ⟨by omega,g2⟩ (by omega)) (Shift.weakS ?_ rfl)
       simp only [wk,go_sem]
     ·have di:decide ((i:Int) < (xs.length:Int))=false:=by simp; omega
      have:i=xs.length:=by omega
      subst this
      rw [List.drop_length] at g2
      refine goB (N:=53) Tryz.ntmps164 300 ?_
      simp only [go_sem,di]
      exact aret [2] rfl ⟨by rw [← g2]; rfl,rfl⟩
theorem noNo_pc (x:Sc):Pc Tryz.prog 166 [scA x] (· = .bool (x.no == [])):=by
 simp only [scA]
 refine pc_intro (ct_intro Tryz.func166 rfl Tryz.ntmps166 hB166 (by simp) fun h ρ w=>goB (N:=6) Tryz.ntmps166 300 ?_)
 simp only [go_sem]
 exact aret [2] rfl ⟨rfl,rfl⟩
theorem story_nos {x:Sr} (hx:StoryOk x):(x.scenes.any fun y=>y.no == [])=false:=by
 rw [List.any_eq_false]
 intro y hy
 obtain ⟨i,hi,rfl⟩:=List.getElem_of_mem hy
 rw [hx.no i hi]
 have:=hx.len
 have:=(no_facts i (by omega)).2.2.2.2
 simp [this]
theorem storyR_pch {S:Std} (hS:LibR S) (x:Sr) (hx:StoryOk x):PcH Tryz.prog S 116 [srA x] (· = .int .i64 (scriptR x)):=by
 have h1:=scriptR_pch hS x hx
 have h2:=anySc_pc 166 [] rfl (fun y=>y.no == []) x.scenes (by have:=hx.len; omega) (fun y _=>noNo_pc y)
 rw [story_nos hx] at h2
 simp only [srA] at h1 ⊢
 refine pch_intro (cth_intro Tryz.func116 rfl Tryz.ntmps116 hB116 (by simp) fun h ρ w hg=>goB (N:=12) Tryz.ntmps116 300 ?_)
 simp only [go_sem]
 refine pcallH1 hg (h1) rfl (N:=12) Tryz.ntmps116 rfl (goB (N:=12) Tryz.ntmps116 300 ?_)
 cases e1:scriptR x != 0 with
 | true =>
  simp only [go_sem,e1]
  exact aret [2] rfl ⟨rfl,rfl⟩
 | false =>
  simp only [go_sem,e1]
  refine pcall1 (h2) rfl (N:=12) Tryz.ntmps116 rfl (goB (N:=12) Tryz.ntmps116 300 ?_)
  simp only [go_sem]
  exact aret [2] rfl ⟨by
   have:scriptR x=0:=by simpa using e1
   rw [this]; rfl,rfl⟩
theorem sceneAtFn_pc (x:Sc) (no:List UInt8):Pc Tryz.prog 168 [scA x,.pin 1 [.str no] 0 0] (· = .bool (x.no == no && no != [])):=by
 simp only [scA]
 refine pc_intro (ct_intro Tryz.func168 rfl Tryz.ntmps168 hB168 (by simp) fun h ρ w=>goB (N:=12) Tryz.ntmps168 300 ?_)
 cases e1:x.no == no with
 | true =>
  simp only [go_sem,e1]
  exact aret [3] rfl ⟨by simp [resV,Av.get,Av.put,e1],rfl⟩
 | false =>
  simp only [go_sem,e1]
  exact aret [3] rfl ⟨by simp [resV,Av.get,Av.put,e1],rfl⟩
def sceneIx (x:Sr) (no:List UInt8):Int:=idxP (fun y=>y.no == no && no != []) x.scenes
theorem sceneAt_pc (x:Sr) (no:List UInt8) (hl:x.scenes.length ≤ 5):Pc Tryz.prog 117 [srA x,.str no] (· = .int .i64 (sceneIx x no)):=by
 have hi:=idxSc_pc 168 [.pin 1 [.str no] 0 0] rfl (fun y=>y.no == no && no != []) x.scenes (by omega) (fun y _=>sceneAtFn_pc y no)
 simp only [srA]
 refine pc_intro (ct_intro Tryz.func117 rfl Tryz.ntmps117 hB117 (by simp) fun h ρ w=>goB (N:=9) Tryz.ntmps117 300 ?_)
 simp only [go_sem]
 refine pcall1 (hi) rfl (N:=9) Tryz.ntmps117 rfl (goB (N:=9) Tryz.ntmps117 300 ?_)
 simp only [go_sem]
 exact aret [4] rfl ⟨rfl,rfl⟩
theorem sceneIx_bd (x:Sr) (no:List UInt8):sceneIx x no < 0∨∃ i,(i < x.scenes.length)∧sceneIx x no=((i:Nat):Int):=by
 unfold sceneIx idxP
 cases hq:x.scenes.findIdx? (fun y=>y.no == no && no != []) with
 | none=>left; decide
 | some i =>
  right
  exact ⟨i,(List.findIdx?_eq_some_iff_getElem.1 hq).1,rfl⟩
theorem story_script {x:Sr} (h:StoryOk x):ScriptOk x:=by
 have hl:=h.len
 have hs:=story_sum h
 have ht:=List.all_eq_true.1 title_all x.title h.title
 simp only [Bool.and_eq_true,decide_eq_true_eq] at ht
 refine ⟨ht.2,ht.1,by omega,by omega,?_⟩
 have key:∀ (l:List Sc) (i:Nat),i+l.length ≤ 5→(∀ j,(hj:j < l.length)→l[j].no=lastL (i+j+1)∧DrawnS ⟨[],l[j].place,l[j].set,l[j].time,l[j].paras⟩)→(i=0→∀ y,l.head? = some y→y.time ≠ 5)→okFrom (accN i) (decide (i=0)) l:=by
  intro l
  induction l with
  | nil=>intros; trivial
  | cons y r ih =>
   intro i hi hall h5
   simp only [List.length_cons] at hi
   obtain ⟨h1,h2⟩:=hall 0 (by simp)
   simp only [List.getElem_cons_zero,Nat.add_zero] at h1 h2
   have ha:=acc_new i (by omega)
   have hd:dd (accN i) y.no=accN (i+1):=by
    rw [h1,dd,if_neg ha.1]
    simp [accN,List.range_succ]
   refine ⟨.inr ?_,h2.place,h2.time,fun hf=>h5 (by simpa using hf) y rfl,?_,?_⟩
   ·rw [h1]; exact ⟨ha.2.1,ha.2.2,ha.1⟩
   ·have:=drawn_scene h2
    exact ⟨this.set,this.len,this.many,this.run⟩
   ·rw [hd]
    have:=ih (i+1) (by omega) (fun j hj=>by
     have:=hall (j+1) (by simpa using hj)
     simp only [List.getElem_cons_succ] at this
     rw [show i+1+j+1=i+(j+1)+1 by omega]
     exact this) (by simp)
    simpa using this
 have:=key x.scenes 0 (by omega) (fun j hj=>⟨by rw [Nat.zero_add]; exact h.no j hj,h.all j hj⟩) (fun _=>h.first)
 simpa [accN] using this
def scMF:Nat→List Sc→List (AV × AV)
 | _,[]=>[]
 | n,y :: r=>(.str y.no,.int .i64 n) :: scMF (n+1) r
theorem scMF_app:∀ (a b:List Sc) (n:Nat),scMF n (a++b)=scMF n a++scMF (n+a.length) b
 | [],b,n=>rfl
 | y :: a,b,n=>by simp only [List.cons_append,scMF,scMF_app a b (n+1),List.length_cons]; rw [show n+1+a.length=n+(a.length+1) by omega]
theorem scMF_none {k:List UInt8}:∀ (l:List Sc) (n m:Nat),(∀ y ∈ l,y.no ≠ k)→mfind .string (.str k) (scMF n l) m=some none
 | [],n,m,_=>rfl
 | y :: r,n,m,h=>by
  have:(k == y.no)=false:=by have:=h y (by simp); simpa using Ne.symm this
  simp only [scMF,mfind,keyEq,this]
  exact scMF_none r (n+1) (m+1) (fun z hz=>h z (by simp [hz]))
theorem scMF_find {k:List UInt8}:∀ (l:List Sc) (n m i:Nat) (hi:i < l.length),l[i].no=k→(∀ j,(hj:j < i)→(l[j]'(by omega)).no ≠ k)→mfind .string (.str k) (scMF n l) m=some (some (m+i,.int .i64 ((n+i:Nat):Int)))
 | [],n,m,i,hi,_,_=>by simp at hi
 | y :: r,n,m,0,hi,h,_=>by
  simp at h
  simp [scMF,mfind,keyEq,h]
 | y :: r,n,m,i+1,hi,h,hn=>by
  have h0:=hn 0 (by omega)
  simp only [List.getElem_cons_zero] at h0
  have:(k == y.no)=false:=by simpa using Ne.symm h0
  simp only [scMF,mfind,keyEq,this]
  rw [scMF_find r (n+1) (m+1) i (by simpa using hi) (by simpa using h) (fun j hj=>by simpa using hn (j+1) (by omega)),show m+1+i=m+(i+1) by omega,show n+1+i=n+(i+1) by omega]
theorem low_scM (n m:Nat) (l:List Sc):lowB n (.mp (scMF m l))=true:=by
 show (scMF m l).all _=true
 rw [List.all_eq_true]
 intro x hx
 have key:∀ (l:List Sc) (m:Nat),x ∈ scMF m l→∃ s i,x=(.str s,.int .i64 i):=by
  intro l
  induction l with
  | nil=>intro m h; simp [scMF] at h
  | cons y r ih =>
   intro m h
   simp only [scMF,List.mem_cons] at h
   rcases h with rfl | h
   ·exact ⟨_,_,rfl⟩
   ·exact ih _ h
 obtain ⟨s,i,rfl⟩:=key l m hx
 rfl
theorem places_ct0 (x:Sr) (hx:StoryOk x):Ct Tryz.prog 51 [srA x] [] (fun r s=>r=.mp 0∧s=[.mp (scMF 0 x.scenes)]):=by
 have hlen:=hx.len
 simp only [srA]
 refine ct_intro Tryz.func51 rfl Tryz.ntmps51 hB51 (by simp) fun h ρ w=>goB (N:=21) Tryz.ntmps51 300 ?_
 simp only [go_sem,List.length_map]
 refine aloop (ι:=Nat) (fun y=>x.scenes.length - y)
  (fun y=>[(10,.int .i64 y),(9,.int .i64 x.scenes.length),(8,.fz 5 (x.scenes.map scA)),(3,.mp 0)])
  (fun y=>[.mp (scMF 0 (x.scenes.take y))]) (fun y=>y ≤ x.scenes.length) 0 (by simp) ?_ ?_
 ·refine Shift.weakS ?_ rfl
  simp only [wk,go_sem,List.length_map]
 intro i g1 J hJ
 by_cases gi:i < x.scenes.length
 ·have di:decide ((i:Int) < (x.scenes.length:Int))=true:=by simp; omega
  have hget:=scA_get x.scenes i gi
  have m1:=scMF_none (k:=x.scenes[i].no) (x.scenes.take i) 0 0 (fun y hy=>by
   obtain ⟨j,hj,rfl⟩:=List.getElem_of_mem hy
   rw [List.length_take] at hj
   rw [List.getElem_take]
   intro e
   exact absurd (hx.inj (by omega) gi e) (by omega))
  have m2:scMF 0 (x.scenes.take i)++[(.str x.scenes[i].no,.int .i64 (i:Int))]=scMF 0 (x.scenes.take (i+1)):=by
   rw [List.take_add_one,List.getElem?_eq_getElem gi,scMF_app]
   simp only [Option.toList,scMF,List.length_take]
   rw [show min i x.scenes.length=i by omega,Nat.zero_add]
  have hfin:=hJ (i+1) (by omega) (by omega)
  generalize x.scenes[i]=y at *
  refine goB (N:=21) Tryz.ntmps51 300 ?_
  simp only [go_sem,di,hget,m1,m2,List.length_map]
  repeat refine And.intro (by first | omega | rfl | kernel_rfl | (simp; done) | (simp; omega)) ?_
  rw [show (i:Int)+1=((i+1:Nat):Int) by omega]
  refine ainv hfin (Shift.low 1 (by simp) (by simp) ?_ ?_)
  ·simp only [List.take_succ_cons,List.take_zero,List.all_cons,List.all_nil,↓low_scM,Bool.and_self]
  ·simp only [wkl,lowV,lowC,Av.get,go_sem]
 ·have di:decide ((i:Int) < (x.scenes.length:Int))=false:=by simp; omega
  rw [show x.scenes.take i=x.scenes from List.take_of_length_le (by omega)]
  refine goB (N:=21) Tryz.ntmps51 300 ?_
  simp only [go_sem,di]
  exact aret [2] rfl ⟨rfl,rfl⟩
theorem scenes_at {x:Sr} (hx:StoryOk x) {no:List UInt8} {i:Nat} (hi:i < x.scenes.length) (hs:sceneIx x no=i):x.scenes[i].no=no∧∀ j,(hj:j < i)→(x.scenes[j]'(by omega)).no ≠ no:=by
 unfold sceneIx idxP at hs
 cases hq:x.scenes.findIdx? (fun y=>y.no == no && no != []) with
 | none=>rw [hq] at hs; simp at hs
 | some j =>
  rw [hq] at hs
  have hij:j=i:=by
   simp only at hs
   omega
  subst hij
  obtain ⟨h1,h2,h3⟩:=List.findIdx?_eq_some_iff_getElem.1 hq
  simp only [Bool.and_eq_true,beq_iff_eq] at h2
  refine ⟨h2.1,fun k hk e=>?_⟩
  have:=hx.inj (show k < x.scenes.length by omega) hi (by rw [e,h2.1])
  omega
theorem tagScript_pch {S:Std} (hS:LibOk S) (x:Sr) (hx:StoryOk x):PcH Tryz.prog S 102 [srA x] (· = .int .i64 0):=by
 have h1:=check_pch hS x (story_script hx)
 have hl:=hx.len
 simp only [srA] at h1 ⊢
 refine pch_intro (cth_intro Tryz.func102 rfl Tryz.ntmps102 hB102 (by simp) fun h ρ w hg=>goB (N:=22) Tryz.ntmps102 300 ?_)
 simp only [go_sem]
 refine pcallH1 hg (h1) rfl (N:=22) Tryz.ntmps102 rfl (goB (N:=22) Tryz.ntmps102 300 ?_)
 simp only [go_sem,List.length_map]
 refine aloop (ι:=Nat) (fun y=>x.scenes.length - y)
  (fun y=>[(14,.int .i64 y),(13,.int .i64 x.scenes.length),(12,.fz 5 (x.scenes.map scA))])
  (fun _=>[]) (fun y=>y ≤ x.scenes.length) 0 (by simp) ?_ ?_
 ·refine Shift.weak ?_
  simp only [wk,go_sem,List.length_map]
 intro i g1 J hJ
 by_cases gi:i < x.scenes.length
 ·have di:decide ((i:Int) < (x.scenes.length:Int))=true:=by simp; omega
  have hget:=scA_get x.scenes i gi
  have hno:(x.scenes[i].no == [])=false:=by
   rw [hx.no i gi]
   exact (no_facts i (by omega)).2.2.2.2
  have hfin:=hJ (i+1) (by omega) (by omega)
  generalize x.scenes[i]=y at *
  refine goB (N:=22) Tryz.ntmps102 300 ?_
  simp only [go_sem,di,hget,hno,List.length_map]
  repeat refine And.intro (by first | omega | rfl | kernel_rfl | (simp; done) | (simp; omega)) ?_
  rw [show (i:Int)+1=((i+1:Nat):Int) by omega]
  refine ainv hfin (Shift.low 0 (by simp) (by simp) rfl ?_)
  simp only [wkl,lowV,lowC,Av.get,go_sem]
 ·have di:decide ((i:Int) < (x.scenes.length:Int))=false:=by simp; omega
  refine goB (N:=22) Tryz.ntmps102 300 ?_
  simp only [go_sem,di]
  exact aret [2] rfl ⟨rfl,rfl⟩
end Go.Proofs.YtnfkjpihaficbaaGreatDoor
