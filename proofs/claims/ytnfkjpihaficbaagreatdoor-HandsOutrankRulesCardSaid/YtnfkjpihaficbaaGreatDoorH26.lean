/- A story that is drawn, told exactly. Own work of this seat. -/
import Derived.Test.YtnfkjpihaficbaaGreatDoorH25
set_option maxRecDepth 100000
set_option linter.unusedSimpArgs false
set_option linter.unusedVariables false
namespace Go.Proofs.YtnfkjpihaficbaaGreatDoor
open Go Go.Av Go.RowKit
def storyF (L:List Int) (k:Int):Sr × Int:=((scriptF L k).1,(scriptF L k).2+1+(if flipF L (scriptF L k).2 3 then ((scriptF L k).1.scenes.length:Int) else 0))
theorem storyF_ok (L:List Int) (k:Int):DrawnR (storyF L k).1∧k ≤ (storyF L k).2∧(storyF L k).2 ≤ k+40000:=by
 obtain ⟨h,a,b⟩:=scriptF_ok L k
 have:=h.len
 unfold storyF
 refine ⟨h,?_,?_⟩
 ·simp only; split <;> omega
 ·simp only; split <;> omega
set_option maxHeartbeats 2000000 in
theorem storyX_mch {S:Std} (hS:LibOk S) (L:List Int) (k:Int) (h3:0 ≤ k) (h4:k ≤ 500000) :
  McH Tryz.prog S 8 2 (str L k) [] (fun r s=>r=srA (numR (storyF L k).1)∧s=str L (storyF L k).2):=by
 have hsc:=scriptX_mc L k (by omega) (by omega)
 obtain ⟨hx,t1,t2⟩:=scriptF_ok L k
 unfold storyF
 generalize scriptF L k=w at *
 obtain ⟨⟨ti,xs⟩,k'⟩:=w
 simp only at hsc hx t1 t2 ⊢
 have hfl:=flipX_mc L k' 3 (by decide) (by decide) (by omega) (by omega)
 generalize flipF L k' 3=fb at *
 obtain ⟨kf,hkf⟩:∃ z:Int,z=k'+1+(if fb=true then ((xs.length:Nat):Int) else 0):=⟨_,rfl⟩
 rw [← hkf]
 refine cth_intro Tryz.func8 rfl Tryz.ntmps8 hB8 (by simp) fun h ρ w hg=>goF (N:=37) Tryz.ntmps8 300 ?_
 simp only [go_sem]
 refine mcall (hsc) rfl rfl (id:=0) rfl (N:=37) Tryz.ntmps8 rfl ?_
 rintro _ _ ⟨rfl,rfl⟩
 have hlen:xs.length ≤ 5:=hx.len
 cases xs with
 | nil =>
  refine goF (N:=37) Tryz.ntmps8 300 ?_
  simp only [go_sem]
  refine pcallH1 hg (numbered_pch hS ⟨ti,[]⟩ (by simp)) rfl (N:=37) Tryz.ntmps8 rfl (go (N:=37) Tryz.ntmps8 300 ?_)
  have e0:srA (numR ⟨ti,[]⟩)=.agg [.str ti,.fz 5 []]:=rfl
  rw [e0]
  simp only [go_sem]
  refine mcall (hfl) rfl rfl (id:=0) rfl (N:=37) Tryz.ntmps8 rfl ?_
  rintro _ _ ⟨rfl,rfl⟩
  cases fb with
  | true =>
   refine goF (N:=37) Tryz.ntmps8 300 ?_
   simp only [go_sem]
   refine aenter (around (go (N:=37) Tryz.ntmps8 300 ?_))
   simp only [go_sem]
   exact aretc [.cell 2 28] rfl [_] ⟨by simp only [go_sem,sideIs,numR,numL],trivial⟩ ⟨_,_,rfl,rfl,by rw [hkf]; simp,rfl,rfl⟩
  | false =>
   refine goF (N:=37) Tryz.ntmps8 300 ?_
   simp only [go_sem]
   exact aretc [.cell 2 28] rfl [_] ⟨by simp only [go_sem,sideIs,numR,numL],trivial⟩ ⟨_,_,rfl,rfl,by rw [hkf]; simp,rfl,rfl⟩
 | cons x xs =>
  refine goF (N:=37) Tryz.ntmps8 300 ?_
  simp only [go_sem]
  refine acallH hg (numbered_cth hS L k' ti x xs (by simp at hlen; omega)) (N:=37) Tryz.ntmps8 rfl ?_
  rintro _ _ ⟨rfl,rfl⟩
  refine goF (N:=37) Tryz.ntmps8 300 ?_
  simp only [go_sem,blkS,blkZ]
  refine mcall (hfl) rfl rfl (id:=0) rfl (N:=37) Tryz.ntmps8 rfl ?_
  rintro _ _ ⟨rfl,rfl⟩
  have htake:List.take (xs.length+1) (List.map scA (numL 0 (x :: xs)))=List.map scA (numL 0 (x :: xs)):=List.take_of_length_le (by simp [numL_len])
  have hl5:xs.length+1 ≤ 5:=by simpa using hlen
  cases fb with
  | false =>
   refine AWp.shift (Shift.frz 4 rfl (frozen_scenes _)) ?_
   simp only [Go.Av.put,srA,↓frzC_str,↓frz_str,frzE,frz,frz1,frzC,frzB,List.map_cons,List.map_nil,List.set_cons_succ,List.set_cons_zero,Nat.reduceBEq,cond_true,cond_false,Bool.false_and,Bool.true_and,List.length_map,Nat.zero_add,numL_len,List.length_cons,decide_true,Nat.le_refl,List.drop_zero]
   simp only [htake]
   refine goF (N:=37) Tryz.ntmps8 300 ?_
   simp only [go_sem]
   exact aretc [.cell 2 28] rfl [_] ⟨by simp only [go_sem,sideIs,numR],trivial⟩ ⟨_,_,rfl,rfl,by rw [hkf]; simp,rfl,rfl⟩
  | true =>
   refine goF (N:=37) Tryz.ntmps8 300 ?_
   simp only [go_sem]
   refine ⟨by simp [numL_len],?_⟩
   refine aloop (ι:=Nat) (fun y=>5 - y)
    (fun y=>[(14,.int .i64 y),(13,.int .i64 ↑(xs.length+1)),(4,.str (lastL y)),(3,.ptr 6 1 0 0),(2,.ptr 1 1 0 0),(0,.ptr 0 1 0 0)])
    (fun y=>[.arr 2 [str L (k'+1+y)],.arr 2 [.agg [.str [],.raw (.slice none 0 0)]],.arr 2 [srA ⟨ti,x :: xs⟩],.arr 2 [.agg [.str ti,.sl 4 0 (xs.length+1) (xs.length+1)]],.arr 5 (List.map scA (numL 0 (x :: xs))),.arr 2 [.agg [.str ti,.sl 4 0 (xs.length+1) (xs.length+1)]],.arr 2 [.agg [.str ti,.sl 4 0 (xs.length+1) (xs.length+1)]]])
    (fun y=>y ≤ xs.length+1) 0 (by simp) ?_ ?_
   ·have h0:k'+1+((0:Nat):Int)=k'+1:=by omega
    simp only [h0]
    refine Shift.weak ?_
    simp only [wk,go_sem,lastL]
   ·intro i g1 J hJ
    by_cases gi:i < xs.length+1
    ·have di:decide ((i:Int) < ((xs.length+1:Nat):Int))=true:=by simp; omega
     have hlast:(lastL (i+1) == [])=false:=by
      have:=last_facts i (by omega)
      rw [this.2.2.2.2.2.2.2.2]; exact this.2.2.2.2.2.2.2.1
     refine goF (N:=37) Tryz.ntmps8 300 ?_
     simp only [go_sem,di]
     have ho1:=oneX_mc L (k'+1+i) [[],[],[57]] (by decide) (by decide) (by omega) (by omega)
     have hz:=oneF_mem (L:=L) (k:=k'+1+i) (ls:=[[],[],[57]]) (by decide)
     generalize oneF L (k'+1+i) [[],[],[57]]=z at *
     have hzz:z=[]∨z=[57]:=by simpa using hz
     refine mcall (ho1) rfl rfl (id:=0) rfl (N:=37) Tryz.ntmps8 rfl ?_
     rintro _ _ ⟨rfl,rfl⟩
     refine goF (N:=37) Tryz.ntmps8 300 ?_
     simp only [go_sem]
     refine pcallH1 hg (betweenOf_pch hS i (by omega) z hzz) rfl (N:=37) Tryz.ntmps8 rfl (goF (N:=37) Tryz.ntmps8 300 ?_)
     have hi:i < (x :: xs).length:=by simpa using gi
     have hget:(List.map scA (numL 0 (x :: xs)))[i]? = some (.agg [.str (lastL (i+1)),.int .i64 (x :: xs)[i].place,.str (x :: xs)[i].set,.int .i64 (x :: xs)[i].time,.fz 2 ((x :: xs)[i].paras.map paA)]):=by
      rw [List.getElem?_map,numL_get _ _ _ hi]
      simp only [Option.map_some,nm,scA,Nat.zero_add,num_last i (by omega)]
     have hgd:List.getD (List.map scA (numL 0 (x :: xs))) i .any=.agg [.str (lastL (i+1)),.int .i64 (x :: xs)[i].place,.str (x :: xs)[i].set,.int .i64 (x :: xs)[i].time,.fz 2 ((x :: xs)[i].paras.map paA)]:=by
      rw [List.getD_eq_getElem?_getD,hget]; rfl
     simp only [go_sem,hlast,hgd]
     have hset:=set_same hget
     refine ⟨by simp [numL_len],by omega,by omega,Nat.le_refl _,by simp [numL_len]; omega,by omega,by omega,?_⟩
     rw [hset,show k'+1+(i:Int)+1=k'+1+((i+1:Nat):Int) by omega,show (i:Int)+1=((i+1:Nat):Int) by omega]
     refine ainv (hJ (i+1) (by omega) (by omega)) (Shift.weak ?_)
     simp only [wk,go_sem]
    ·have di:decide ((i:Int) < ((xs.length+1:Nat):Int))=false:=by simp; omega
     refine AWp.shift (Shift.frz 4 rfl (frozen_scenes _)) ?_
     simp only [Go.Av.put,srA,↓frzC_str,↓frz_str,frzE,frz,frz1,frzC,frzB,List.map_cons,List.map_nil,List.set_cons_succ,List.set_cons_zero,Nat.reduceBEq,cond_true,cond_false,Bool.false_and,Bool.true_and,List.length_map,Nat.zero_add,numL_len,List.length_cons,decide_true,Nat.le_refl,List.drop_zero]
     simp only [htake]
     refine goF (N:=37) Tryz.ntmps8 300 ?_
     simp only [go_sem,di]
     exact aretc [.cell 2 28] rfl [_] ⟨by simp only [go_sem,sideIs,numR],trivial⟩ ⟨_,_,rfl,rfl,by rw [hkf,show i=xs.length+1 by omega]; simp,rfl,rfl⟩
structure Cv where
 para:Int
 inn:Int
 out:Int
 on:Bool
deriving DecidableEq
structure Tk where
 scene:List UInt8
 setup:List UInt8
 number:Int
 roll:List UInt8
 sound:List UInt8
 inn:Int
 out:Int
 good:Bool
 covers:List Cv
structure Pp' where
 take:Nat
 cv:Cv
deriving DecidableEq
structure Scr where
 joins:Int
 on:Int
deriving DecidableEq
def fol (a b:Pp'):Bool:=a.take == b.take && a.cv.out == b.cv.inn
structure Stp where
 parts:List Pp'
 scr:Pp'→Scr
 best:Scr
end Go.Proofs.YtnfkjpihaficbaaGreatDoor
set_option linter.unusedSectionVars false
namespace Go.Av
open Go Go.RowKit
variable [Tr]
end Go.Av
namespace Go.Av
open Go Go.RowKit
variable [Tr]
def idx:List Nat→Nat→Nat→Option Nat
 | [],_,_=>none
 | a :: r,id,k=>bif a == id then some k else idx r id (k+1)
def ren1 (σ:List Nat):AV→AV
 | .sl id o l c=>match idx σ id 0 with
  | some k=>.sl k o l c
  | none=>.any
 | .ptr id n i o=>match idx σ id 0 with
  | some k=>.ptr k n i o
  | none=>.any
 | .mp id=>match idx σ id 0 with
  | some k=>.mp k
  | none=>.any
 | .agg _=>.any
 | .tup _=>.any
 | .fn _ _=>.any
 | a=>a
def renC (σ:List Nat):AV→AV
 | .agg r=>.agg (r.map (ren1 σ))
 | a=>ren1 σ a
def renV (σ:List Nat):AV→AV
 | .agg r=>.agg (r.map (ren1 σ))
 | .fn f r=>.fn f (r.map (ren1 σ))
 | a=>ren1 σ a
def renB (σ:List Nat):Blk→Blk
 | .arr e l=>.arr e (l.map (renC σ))
 | .mp es=>.mp (es.map fun x=>(x.1,renV σ x.2))
 | b=>b
def renE (σ:List Nat):Env→Env
 | []=>[]
 | (t,v) :: r=>(t,renV σ v) :: renE σ r
def renS (σ:List Nat) (s:List Blk):List Blk:=σ.map fun i=>renB σ (s.getD i .dead)
def mpOk:Blk→Bool
 | .it _ _ _=>false
 | _=>true
def renOk (σ:List Nat) (n:Nat) (s:List Blk):Bool:=σ.all (fun i=>decide (i < s.length) && mpOk (s.getD i .dead)) && (decide σ.Nodup && (σ.take n == List.range n))
theorem idx_some:∀ {σ:List Nat} {id k j:Nat},idx σ id j=some k→j ≤ k∧σ[k - j]? = some id
 | [],_,_,_,h=>by cases h
 | a :: r,id,k,j,h=>by
  simp only [idx] at h
  by_cases e:a=id
  ·subst e
   simp at h
   subst h
   simp
  ·have:(a == id)=false:=by simpa using e
   simp only [this,cond_false] at h
   obtain ⟨h1,h2⟩:=idx_some h
   refine ⟨by omega,?_⟩
   rw [show k - j=(k - (j+1))+1 by omega]
   simpa using h2
section
variable {h:Mem} {ρ:Own} {s:List Blk} {w:World} {σ:List Nat}
def renρ (ρ:Own) (σ:List Nat):Own:=fun k=>match σ[k]? with
 | some i=>ρ i
 | none=>none
theorem renS_get {k i:Nat} (hk:σ[k]? = some i) (hi:i < s.length):(renS σ s)[k]? = some (renB σ (s[i])):=by
 simp only [renS,List.getElem?_map,hk,Option.map_some,List.getD_eq_getElem?_getD,List.getElem?_eq_getElem hi,Option.getD_some]
theorem LfC_at2 {σ:List Nat} (hs:∀ i ∈ σ,i < s.length) {k id:Nat} (hk:σ[k]? = some id) {v:Value} {a b c:Nat} (l:LfC ρ s v (.sl id a b c)):LfC (renρ ρ σ) (renS σ s) v (.sl k a b c):=by
 have hi:=hs id (List.mem_of_getElem? hk)
 have hρ:renρ ρ σ k=ρ id:=by simp [renρ,hk]
 simp only [LfC,renS_get hk hi,List.getElem?_eq_getElem hi,hρ] at l ⊢
 cases hq:s[id] <;> rw [hq] at l <;> simp only [renB,List.length_map] at l ⊢ <;> exact l
theorem LfC_ptr2 {σ:List Nat} (hs:∀ i ∈ σ,i < s.length) {k id:Nat} (hk:σ[k]? = some id) {v:Value} {a b c:Nat} (l:LfC ρ s v (.ptr id a b c)):LfC (renρ ρ σ) (renS σ s) v (.ptr k a b c):=by
 have hi:=hs id (List.mem_of_getElem? hk)
 have hρ:renρ ρ σ k=ρ id:=by simp [renρ,hk]
 simp only [LfC,renS_get hk hi,List.getElem?_eq_getElem hi,hρ] at l ⊢
 cases hq:s[id] <;> rw [hq] at l <;> simp only [renB,List.length_map] at l ⊢ <;> exact l
theorem LfC_mp2 {σ:List Nat} (hs:∀ i ∈ σ,i < s.length) {k id:Nat} (hk:σ[k]? = some id) {v:Value} (l:LfC ρ s v (.mp id)):LfC (renρ ρ σ) (renS σ s) v (.mp k):=by
 have hi:=hs id (List.mem_of_getElem? hk)
 have hρ:renρ ρ σ k=ρ id:=by simp [renρ,hk]
 simp only [LfC,renS_get hk hi,List.getElem?_eq_getElem hi,hρ] at l ⊢
 cases hq:s[id] <;> rw [hq] at l <;> simp only [renB] at l ⊢ <;> exact l
theorem idx_get {σ:List Nat} {id k:Nat} (h:idx σ id 0=some k):σ[k]? = some id:=by simpa using (idx_some h).2
theorem ren_one (hs:∀ i ∈ σ,i < s.length) {v:Value} {a:AV} (r:RV h (Lf ρ s) false v a):RV h (Lf (renρ ρ σ) (renS σ s)) false v (ren1 σ a):=by
 have frz:frozen a=true→RV h (Lf (renρ ρ σ) (renS σ s)) false v a:=fun hf=>(frz_one r hf).thaw (fun _ _ _ x=>x)
 cases a with
 | sl id o l c =>
  simp only [ren1]
  cases hq:idx σ id 0 with
  | none=>exact .any _
  | some k=>exact .leaf ⟨(inv_sl r).1,LfC_at2 hs (idx_get hq) (inv_sl r).2⟩
 | ptr id n i o =>
  simp only [ren1]
  cases hq:idx σ id 0 with
  | none=>exact .any _
  | some k=>exact .leaf ⟨(inv_ptr r).1,LfC_ptr2 hs (idx_get hq) (inv_ptr r).2⟩
 | mp id =>
  simp only [ren1]
  cases hq:idx σ id 0 with
  | none=>exact .any _
  | some k=>exact .leaf ⟨(inv_mp r).1,LfC_mp2 hs (idx_get hq) (inv_mp r).2⟩
 | agg r=>exact .any _
 | tup r=>exact .any _
 | fn f r=>exact .any _
 | _=>exact frz rfl
theorem ren_list (hs:∀ i ∈ σ,i < s.length):∀ {l:List AV} {vs:List Value},RL h (Lf ρ s) false vs l→RL h (Lf (renρ ρ σ) (renS σ s)) false vs (l.map (ren1 σ))
 | [],_,r=>by cases r; exact .nil
 | a :: l,_,r=>by cases r with | cons r1 r2=>exact .cons (ren_one hs r1) (ren_list hs r2)
theorem renC_cells (σ:List Nat) (x:AV):cellsOf (renC σ x)=(cellsOf x).map (ren1 σ):=by
 cases x with
 | sl id o l c=>simp only [renC,ren1,cellsOf,List.map_cons,List.map_nil]; cases idx σ id 0 <;> rfl
 | ptr id n i o=>simp only [renC,ren1,cellsOf,List.map_cons,List.map_nil]; cases idx σ id 0 <;> rfl
 | mp id=>simp only [renC,ren1,cellsOf,List.map_cons,List.map_nil]; cases idx σ id 0 <;> rfl
 | _=>rfl
theorem renC_flat (σ:List Nat):∀ l,flat (l.map (renC σ))=(flat l).map (ren1 σ)
 | []=>rfl
 | x :: r=>by simp only [List.map_cons,flat,renC_cells,renC_flat σ r,List.map_append]
theorem ren_val (hs:∀ i ∈ σ,i < s.length) {u:Value} {y:AV} (hx:RV h (Lf ρ s) false u y):RV h (Lf (renρ ρ σ) (renS σ s)) false u (renV σ y):=by
 cases y with
 | agg r =>
  obtain ⟨vs,rfl,rl⟩:=inv_agg hx
  exact .agg vs _ (ren_list hs rl)
 | fn f r =>
  cases hx with
  | leaf p=>exact p.2.elim
  | fn _ vs _ rl=>exact .fn f vs _ (ren_list hs rl)
 | _=>exact ren_one hs hx
theorem Mine.ren (m:Mine h ρ s w) (hs:∀ i ∈ σ,i < s.length) (hm:∀ i ∈ σ,mpOk (s.getD i .dead)=true) (hn:σ.Nodup):Mine h (renρ ρ σ) (renS σ s) w:=by
 have hρ:∀ k g t,renρ ρ σ k=some (g,t)→∃ i,σ[k]? = some i∧ρ i=some (g,t):=by
  intro k g t e
  unfold renρ at e
  cases hq:σ[k]? with
  | none=>rw [hq] at e; cases e
  | some i=>rw [hq] at e; exact ⟨i,rfl,e⟩
 refine ⟨m.mem,?_,?_,?_,?_⟩
 ·intro k b e
  have hk:k < σ.length:=by
   have:=(List.getElem?_eq_some_iff.1 e).1
   simpa [renS] using this
  have hq:=List.getElem?_eq_getElem hk
  have hi:=hs σ[k] (List.getElem_mem hk)
  have hmk:=hm σ[k] (List.getElem_mem hk)
  rw [renS_get hq hi] at e
  simp only [Option.some.injEq] at e
  subst e
  have o:=m.own σ[k] s[σ[k]] (List.getElem?_eq_getElem hi)
  have hρk:renρ ρ σ k=ρ σ[k]:=by simp [renρ,hq]
  rw [List.getD_eq_getElem?_getD,List.getElem?_eq_getElem hi,Option.getD_some] at hmk
  cases hb:s[σ[k]] with
  | arr es l =>
   rw [hb] at o
   rcases o with ⟨h1,h2⟩ | ⟨g,tot,cur,t,h1,h2,h3,h4,h5,h6,h7,h8,h9⟩
   ·exact .inl ⟨by simp [h1],hρk.trans h2⟩
   ·refine .inr ⟨g,tot,cur,t,hρk.trans h1,h2,h3,by simpa using h4,h5,h6,?_,h8,?_⟩
    ·intro x hx
     obtain ⟨y,hy,rfl⟩:=List.mem_map.1 hx
     rw [renC_cells,List.length_map]
     exact h7 y hy
    ·rw [renC_flat,List.length_map]
     exact ren_list hs h9
  | mp es =>
   rw [hb] at o hmk
   obtain ⟨g,en,cl,h1,h2,h3,h4,h5⟩:=o
   refine ⟨g,en,cl,hρk.trans h1,h2,by rw [lvs_map]; simpa using h3,fun k x y hx hy=>?_,h5.map _⟩
   rw [lvs_map,List.getElem?_map] at hx
   obtain ⟨x',hx',rfl⟩:=Option.map_eq_some_iff.1 hx
   obtain ⟨p,q⟩:=h4 k x' y hx' hy
   exact ⟨p.thaw (fun _ _ _ x=>x),ren_val hs q⟩
  | it mid n seen=>rw [hb] at hmk; cases hmk
  | dead=>rw [hb] at o; exact hρk.trans o
 ·intro k hk
  have:σ[k]? = none:=List.getElem?_eq_none (by simpa [renS] using hk)
  simp [renρ,this]
 ·intro k k' g t t' hi hj
  obtain ⟨i,h1,h2⟩:=hρ k g t hi
  obtain ⟨j,h3,h4⟩:=hρ k' g t' hj
  have hij:=m.inj i j g t t' h2 h4
  subst hij
  exact (List.getElem?_inj (List.getElem?_eq_some_iff.1 h1).1 hn).1 (h1.trans h3.symm)
 ·intro k g t e
  obtain ⟨i,h1,h2⟩:=hρ k g t e
  exact m.disj i g t h2
end
variable {c:Cx} {e:Env} {s:List Blk}
theorem get_renE (σ:List Nat) (t:Nat):∀ r,get (renE σ r) t=.any∨get (renE σ r) t=renV σ (get r t)
 | []=>.inl rfl
 | (t',v) :: r=>by
  have ih:=get_renE σ t r
  simp only [renE,Av.get]
  cases t' == t with
  | true=>exact .inr rfl
  | false=>exact ih
theorem Shift.ren (σ:List Nat) (hσ:renOk σ c.sto.length s=true):Shift c e s (renE σ e) (renS σ s):=by
 rintro a w ⟨hh,ρ,hm,hlt,he,hdf,hsz,hX⟩
 simp only [renOk,Bool.and_eq_true,List.all_eq_true,decide_eq_true_eq,beq_iff_eq] at hσ
 obtain ⟨h1,h2,h3⟩:=hσ
 have hs:∀ i ∈ σ,i < s.length:=fun i hi=>(h1 i hi).1
 have keep:∀ i,i < c.sto.length→σ[i]? = some i:=fun i hi=>by
  have:(σ.take c.sto.length)[i]? = some i:=by rw [h3]; simp [hi]
  rwa [List.getElem?_take,if_pos hi] at this
 have low:∀ v x,Lf c.ρ c.sto v x→Lf (renρ ρ σ) (renS σ s) v x:=by
  intro v x lf
  have l2:=hlt.keep v x lf
  refine ⟨lf.1,?_⟩
  have hx:=lf.2
  have l3:=l2.2
  cases x with
  | sl i o l cp =>
   simp only [LfC] at hx
   cases hq:c.sto[i]? with
   | none=>simp [hq] at hx
   | some y=>exact LfC_at2 hs (keep i (List.getElem?_eq_some_iff.1 hq).1) l3
  | ptr i n j o =>
   simp only [LfC] at hx
   cases hq:c.sto[i]? with
   | none=>simp [hq] at hx
   | some y=>exact LfC_ptr2 hs (keep i (List.getElem?_eq_some_iff.1 hq).1) l3
  | mp i =>
   simp only [LfC] at hx
   cases hq:c.sto[i]? with
   | none=>simp [hq] at hx
   | some y=>exact LfC_mp2 hs (keep i (List.getElem?_eq_some_iff.1 hq).1) l3
  | _=>exact l3.elim
 have hρ:∀ k g t,renρ ρ σ k=some (g,t)→∃ i,ρ i=some (g,t):=by
  intro k g t e
  unfold renρ at e
  cases hq:σ[k]? with
  | none=>rw [hq] at e; cases e
  | some i=>rw [hq] at e; exact ⟨i,e⟩
 refine ⟨hh,renρ ρ σ,hm.ren hs (fun i hi=>(h1 i hi).2) h2,⟨hlt.hle,hlt.hnew,low,hlt.os,hlt.tape,hlt.output,hlt.size,hlt.block,fun k g t hk=>?_⟩,fun t=>?_,hdf,hsz,c.hx.fewer (fun k g t hk=>?_) hX⟩
 ·obtain ⟨i,hi⟩:=hρ k g t hk
  exact hlt.newown i g t hi
 ·have hx:=he t
  rcases get_renE σ t e with hq | hq
  ·rw [hq]; exact .any _
  ·rw [hq]
   generalize Av.get e t=y at hx ⊢
   cases y with
   | agg r =>
    obtain ⟨vs,hv,rl⟩:=inv_agg hx
    rw [hv]
    exact .agg vs _ (ren_list hs rl)
   | fn f r =>
    generalize a.tmps.getD t undef=u at hx ⊢
    cases hx with
    | leaf p=>exact p.2.elim
    | fn _ vs _ rl=>exact .fn f vs _ (ren_list hs rl)
   | _=>exact ren_one hs hx
 ·obtain ⟨i,hi⟩:=hρ k g t hk
  exact ⟨i,t,hi⟩
end Go.Av
