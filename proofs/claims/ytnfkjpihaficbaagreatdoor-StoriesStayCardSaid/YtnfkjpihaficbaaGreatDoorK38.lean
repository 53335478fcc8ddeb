/- Story days: plain. -/
import Derived.Test.YtnfkjpihaficbaaGreatDoorK37
set_option maxRecDepth 100000
set_option linter.unusedSimpArgs false
set_option linter.unusedVariables false
namespace Go.Proofs.YtnfkjpihaficbaaGreatDoor
open Go Go.Av Go.RowKit
def jmM(x:Sr)(l:List Jm):List (AV×AV):=l.map fun j=>(.int .i64 (sceneIx x j.scene),jmA j)
def jmAt(x:Sr)(l:List Jm)(i:Nat):Option Jm:=l.find? fun j=>sceneIx x j.scene==(i:Int)
theorem A0V(x:Sr)(n:Int):∀ (l:List Jm)(k:Nat),(∀ j∈l,sceneIx x j.scene≠n)->mfind (.int .i64) (.int .i64 n) (jmM x l) k=some none
 | [],k,_=>rfl
 | j::r,k,h=>by
  have h1:(n==sceneIx x j.scene)=false:=by have:=h j (by simp); simpa using Ne.symm this
  show(match keyEq (.int .i64) (.int .i64 n) (.int .i64 (sceneIx x j.scene))with|some true=>_|some false=>mfind (.int .i64) (.int .i64 n) (jmM x r) (k+1)|none=>_)=_
  simp only[keyEq,h1];exact A0V x n r (k+1) (fun y hy=>h y (by simp[hy]))
theorem BfS(x:Sr)(n:Nat):∀ (l:List Jm)(k:Nat),(jmAt x l n=none/\mfind (.int .i64) (.int .i64 (n:Int)) (jmM x l) k=some none)\/(∃ j q,jmAt x l n=some j/\j∈l/\mfind (.int .i64) (.int .i64 (n:Int)) (jmM x l) k=some (some (q,jmA j)))
 | [],k=>.inl ⟨rfl,rfl⟩
 | j::r,k=>by
  by_cases h:sceneIx x j.scene=(n:Int)
  .refine .inr ⟨j,k,?_,by simp,?_⟩
   .simp [jmAt,h]
   .show (match keyEq (.int .i64) (.int .i64 (n:Int)) (.int .i64 (sceneIx x j.scene))with|some true=>some (some (k,jmA j))|some false=>mfind (.int .i64) (.int .i64 (n:Int)) (jmM x r) (k+1)|none=>_)=_
    rw[h]
    simp[keyEq]
  .have h1:((n:Int)==sceneIx x j.scene)=false:=by simpa using Ne.symm h
   have h2:(sceneIx x j.scene==(n:Int))=false:=by simpa using h
   have e:mfind (.int .i64) (.int .i64 (n:Int)) (jmM x (j::r)) k=mfind (.int .i64) (.int .i64 (n:Int)) (jmM x r) (k+1):=by
    show(match keyEq (.int .i64) (.int .i64 (n:Int)) (.int .i64 (sceneIx x j.scene))with|some true=>some (some (k,jmA j))|some false=>mfind (.int .i64) (.int .i64 (n:Int)) (jmM x r) (k+1)|none=>_)=_
    simp only[keyEq,h1];rfl
   have e2:jmAt x (j::r) n=jmAt x r n:=by simp[jmAt,h2]
   rw[e,e2]
   rcases BfS x n r (k+1)with h|⟨j',q,a,b,c⟩
   .exact .inl h
   .exact .inr ⟨j',q,a,by simp[b],c⟩
theorem A9E(n:Nat)(x:Sr)(l:List Jm):lowB n (.mp (jmM x l))=true:=by
 show(jmM x l).all _=true
 rw[List.all_eq_true];intro y hy;simp only[jmM,List.mem_map]at hy;obtain⟨f,_,rfl⟩:=hy;rfl
structure DSt where
 os:List (Int×Int×Int)
 fs:List Bool
 st:Int
def j0:Jm:=⟨[],0,0,false⟩
def dFl(jm:Option Jm)(i:Nat)(fs:List Bool):Bool:=match jm with
 | some j=>j.flash
 | none=>decide (0<i)&&fs.getD (i-1) false
def dP(i:Nat)(fs:List Bool)(fl:Bool)(st:Int):Int:=if 0<i/\fs.getD (i-1) false=fl then(i:Int)-1 else st
def dDay(j:Jm)(ts:List Int)(i:Nat)(os:List (Int×Int×Int))(p st:Int):Int :=
 if j.to'≠0 then j.to' else if j.by'≠0 then(if st>=0 then(os.getD st.toNat (0,0,0)).1 else 1)+j.by'
 else if p>=0 then(if AaU (ts.getD i 0)<AaU (ts.getD p.toNat 0) then(os.getD p.toNat (0,0,0)).1+1 else(os.getD p.toNat (0,0,0)).1) else 1
def dStep(x:Sr)(l:List Jm)(ts:List Int)(i:Nat)(s:DSt):DSt :=
 ⟨s.os++[(dDay ((jmAt x l i).getD j0) ts i s.os (dP i s.fs (dFl (jmAt x l i) i s.fs) s.st) s.st,ts.getD i 0,0)],s.fs++[dFl (jmAt x l i) i s.fs],if dFl (jmAt x l i) i s.fs then s.st else i⟩
def dRun(x:Sr)(l:List Jm)(ts:List Int):Nat->DSt
 | 0=>⟨[],[],-1⟩
 | i+1=>dStep x l ts i (dRun x l ts i)
structure DOk(i:Nat)(s:DSt):Prop where
 os:s.os.length=i
 fs:s.fs.length=i
 st:-1<=s.st/\s.st<i
 bd:∀ o∈s.os,-2001*(i:Int)<=o.1/\o.1<=2001*(i:Int)
 tm:∀ o∈s.os,1<=o.2.1/\o.2.1<=4
theorem A0W{j:Jm}(h:jumpR j=0):0<=j.by'/\j.by'<=1000 /\ -1000<=j.to'/\j.to'<=1000:=by
 unfold jumpR at h
 split at h
 .exact absurd h (by decide)
 .rename_i hc
  simp only[Bool.or_eq_true,decide_eq_true_eq,not_or]at hc;omega
theorem BeC{x:Sr}{l:List Jm}{i:Nat}{j:Jm}(h:jmAt x l i=some j):j∈l:=List.mem_of_find?_eq_some h
theorem BfT{x:Sr}{l:List Jm}(hl:∀ j∈l,jumpR j=0)(i:Nat):jumpR ((jmAt x l i).getD j0)=0:=by
 cases h:jmAt x l i with
 | none=>rfl
 | some j=>exact hl j (BeC h)
theorem dP_bd{i:Nat}{fs:List Bool}{fl:Bool}{st:Int}(h:-1<=st/\st<i):-1<=dP i fs fl st/\dP i fs fl st<i:=by
 unfold dP
 split <;> omega
theorem osD{os:List (Int×Int×Int)}{p:Int}(h:0<=p/\p<os.length):os.getD p.toNat (0,0,0)∈os:=by
 have:p.toNat<os.length:=by omega
 simp[List.getD,this]
theorem BjL{j:Jm}(hj:jumpR j=0)(ts:List Int){i:Nat}{s:DSt}(h:DOk i s){p:Int}(hp:-1<=p/\p<i):-2001*((i:Int)+1)<=dDay j ts i s.os p s.st/\dDay j ts i s.os p s.st<=2001*((i:Int)+1):=by
 obtain⟨a1,a2,a3,a4⟩:=A0W hj;have h1:=h.st;have hl:=h.os;unfold dDay
 split
 .omega
 split
 .split
  .have:=h.bd _ (osD (p:=s.st) (by omega))
   omega
  .omega
 split
 .have:=h.bd _ (osD (p:=p) (by omega))
  split <;> omega
 .omega
theorem ArS{x:Sr}{l:List Jm}(hl:∀ j∈l,jumpR j=0){ts:List Int}(ht:∀ t∈ts,1<=t/\t<=4):∀ i,i<=ts.length->DOk i (dRun x l ts i)
 | 0,_=>⟨rfl,rfl,⟨by simp[dRun],by simp[dRun]⟩,by simp[dRun],by simp[dRun]⟩
 | i+1,hi=>by
  have h:=ArS (x:=x) hl ht i (by omega);have hb:=BjL (BfT (x:=x) hl i) ts h (dP_bd (i:=i) (fs:=(dRun x l ts i).fs) (fl:=dFl (jmAt x l i) i (dRun x l ts i).fs) h.st);rw[dRun];refine⟨by simp[dStep,h.os],by simp[dStep,h.fs],?_,?_,?_⟩
  .have:=h.st
   simp only[dStep]
   split <;> omega
  .intro o ho
   simp only[dStep,List.mem_append,List.mem_singleton]at ho
   rcases ho with ho|rfl
   .have:=h.bd o ho
    omega
   .simp only
    omega
  .intro o ho
   simp only[dStep,List.mem_append,List.mem_singleton]at ho
   rcases ho with ho|rfl
   .exact h.tm o ho
   .simp only
    have:i<ts.length:=by omega
    rw[show ts.getD i 0=ts[i] by simp[List.getD,this]];exact ht _ (List.getElem_mem this)
