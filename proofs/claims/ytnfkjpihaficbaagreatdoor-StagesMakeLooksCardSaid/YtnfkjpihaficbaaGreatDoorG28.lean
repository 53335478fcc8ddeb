/- A story that is drawn, told exactly. Own work of this seat. -/
import Derived.Test.YtnfkjpihaficbaaGreatDoorG27
set_option maxRecDepth 100000
set_option linter.unusedSimpArgs false
set_option linter.unusedVariables false
namespace Go.Proofs.YtnfkjpihaficbaaGreatDoor
open Go Go.Av Go.RowKit
def storyF (L:List Int) (k:Int):Sr × Int:=((scriptF L k).1,(scriptF L k).2+1+(if flipF L (scriptF L k).2 3 then ((scriptF L k).1.scenes.length:Int) else 0))
theorem storyF_ok (L:List Int) (k:Int):DrawnR (storyF L k).1∧k ≤ (storyF L k).2∧(storyF L k).2 ≤ k+40000:=by
 obtain ⟨h,a,b⟩:=scriptF_ok L k
 have:=h.len
 unfold storyF
 refine ⟨h,?_,?_⟩
 ·simp only; split <;> omega
 ·simp only; split <;> omega
set_option maxHeartbeats 2000000 in
theorem storyX_mch {S:Std} (hS:LibOk S) (L:List Int) (k:Int) (h3:0 ≤ k) (h4:k ≤ 500000) :
  McH Tryz.prog S 8 2 (str L k) [] (fun r s=>r=srA (numR (storyF L k).1)∧s=str L (storyF L k).2):=by
 have hsc:=scriptX_mc L k (by omega) (by omega)
 obtain ⟨hx,t1,t2⟩:=scriptF_ok L k
 unfold storyF
 generalize scriptF L k=w at *
 obtain ⟨⟨ti,xs⟩,k'⟩:=w
 simp only at hsc hx t1 t2 ⊢
 have hfl:=flipX_mc L k' 3 (by decide) (by decide) (by omega) (by omega)
 generalize flipF L k' 3=fb at *
 obtain ⟨kf,hkf⟩:∃ z:Int,z=k'+1+(if fb=true then ((xs.length:Nat):Int) else 0):=⟨_,rfl⟩
 rw [← hkf]
 refine cth_intro Tryz.func8 rfl Tryz.ntmps8 hB8 (by simp) fun h ρ w hg=>goF (N:=37) Tryz.ntmps8 300 ?_
 simp only [go_sem]
 refine mcall (hsc) rfl rfl (id:=0) rfl (N:=37) Tryz.ntmps8 rfl ?_
 rintro _ _ ⟨rfl,rfl⟩
 have hlen:xs.length ≤ 5:=hx.len
 cases xs with
 | nil =>
  refine goF (N:=37) Tryz.ntmps8 300 ?_
  simp only [go_sem]
  refine pcallH1 hg (numbered_pch hS ⟨ti,[]⟩ (by simp)) rfl (N:=37) Tryz.ntmps8 rfl (go (N:=37) Tryz.ntmps8 300 ?_)
  have e0:srA (numR ⟨ti,[]⟩)=.agg [.str ti,.fz 5 []]:=rfl
  rw [e0]
  simp only [go_sem]
  refine mcall (hfl) rfl rfl (id:=0) rfl (N:=37) Tryz.ntmps8 rfl ?_
  rintro _ _ ⟨rfl,rfl⟩
  cases fb with
  | true =>
   refine goF (N:=37) Tryz.ntmps8 300 ?_
   simp only [go_sem]
   refine aenter (around (go (N:=37) Tryz.ntmps8 300 ?_))
   simp only [go_sem]
   exact aretc [.cell 2 28] rfl [_] ⟨by simp only [go_sem,sideIs,numR,numL],trivial⟩ ⟨_,_,rfl,rfl,by rw [hkf]; simp,rfl,rfl⟩
  | false =>
   refine goF (N:=37) Tryz.ntmps8 300 ?_
   simp only [go_sem]
   exact aretc [.cell 2 28] rfl [_] ⟨by simp only [go_sem,sideIs,numR,numL],trivial⟩ ⟨_,_,rfl,rfl,by rw [hkf]; simp,rfl,rfl⟩
 | cons x xs =>
  refine goF (N:=37) Tryz.ntmps8 300 ?_
  simp only [go_sem]
  refine acallH hg (numbered_cth hS L k' ti x xs (by simp at hlen; omega)) (N:=37) Tryz.ntmps8 rfl ?_
  rintro _ _ ⟨rfl,rfl⟩
  refine goF (N:=37) Tryz.ntmps8 300 ?_
  simp only [go_sem,blkS,blkZ]
  refine mcall (hfl) rfl rfl (id:=0) rfl (N:=37) Tryz.ntmps8 rfl ?_
  rintro _ _ ⟨rfl,rfl⟩
  have htake:List.take (xs.length+1) (List.map scA (numL 0 (x :: xs)))=List.map scA (numL 0 (x :: xs)):=List.take_of_length_le (by simp [numL_len])
  have hl5:xs.length+1 ≤ 5:=by simpa using hlen
  cases fb with
  | false =>
   refine AWp.shift (Shift.frz 4 rfl (frozen_scenes _)) ?_
   simp only [Go.Av.put,srA,↓frzC_str,↓frz_str,frzE,frz,frz1,frzC,frzB,List.map_cons,List.map_nil,List.set_cons_succ,List.set_cons_zero,Nat.reduceBEq,cond_true,cond_false,Bool.false_and,Bool.true_and,List.length_map,Nat.zero_add,numL_len,List.length_cons,decide_true,Nat.le_refl,List.drop_zero]
   simp only [htake]
   refine goF (N:=37) Tryz.ntmps8 300 ?_
   simp only [go_sem]
   exact aretc [.cell 2 28] rfl [_] ⟨by simp only [go_sem,sideIs,numR],trivial⟩ ⟨_,_,rfl,rfl,by rw [hkf]; simp,rfl,rfl⟩
  | true =>
   refine goF (N:=37) Tryz.ntmps8 300 ?_
   simp only [go_sem]
   refine ⟨by simp [numL_len],?_⟩
   refine aloop (ι:=Nat) (fun y=>5 - y)
    (fun y=>[(14,.int .i64 y),(13,.int .i64 ↑(xs.length+1)),(4,.str (lastL y)),(3,.ptr 6 1 0 0),(2,.ptr 1 1 0 0),(0,.ptr 0 1 0 0)])
    (fun y=>[.arr 2 [str L (k'+1+y)],.arr 2 [.agg [.str [],.raw (.slice none 0 0)]],.arr 2 [srA ⟨ti,x :: xs⟩],.arr 2 [.agg [.str ti,.sl 4 0 (xs.length+1) (xs.length+1)]],.arr 5 (List.map scA (numL 0 (x :: xs))),.arr 2 [.agg [.str ti,.sl 4 0 (xs.length+1) (xs.length+1)]],.arr 2 [.agg [.str ti,.sl 4 0 (xs.length+1) (xs.length+1)]]])
    (fun y=>y ≤ xs.length+1) 0 (by simp) ?_ ?_
   ·have h0:k'+1+((0:Nat):Int)=k'+1:=by omega
    simp only [h0]
    refine Shift.weak ?_
    simp only [wk,go_sem,lastL]
   ·intro i g1 J hJ
    by_cases gi:i < xs.length+1
    ·have di:decide ((i:Int) < ((xs.length+1:Nat):Int))=true:=by simp; omega
     have hlast:(lastL (i+1) == [])=false:=by
      have:=last_facts i (by omega)
      rw [this.2.2.2.2.2.2.2.2]; exact this.2.2.2.2.2.2.2.1
     refine goF (N:=37) Tryz.ntmps8 300 ?_
     simp only [go_sem,di]
     have ho1:=oneX_mc L (k'+1+i) [[],[],[57]] (by decide) (by decide) (by omega) (by omega)
     have hz:=oneF_mem (L:=L) (k:=k'+1+i) (ls:=[[],[],[57]]) (by decide)
     generalize oneF L (k'+1+i) [[],[],[57]]=z at *
     have hzz:z=[]∨z=[57]:=by simpa using hz
     refine mcall (ho1) rfl rfl (id:=0) rfl (N:=37) Tryz.ntmps8 rfl ?_
     rintro _ _ ⟨rfl,rfl⟩
     refine goF (N:=37) Tryz.ntmps8 300 ?_
     simp only [go_sem]
     refine pcallH1 hg (betweenOf_pch hS i (by omega) z hzz) rfl (N:=37) Tryz.ntmps8 rfl (goF (N:=37) Tryz.ntmps8 300 ?_)
     have hi:i < (x :: xs).length:=by simpa using gi
     have hget:(List.map scA (numL 0 (x :: xs)))[i]? = some (.agg [.str (lastL (i+1)),.int .i64 (x :: xs)[i].place,.str (x :: xs)[i].set,.int .i64 (x :: xs)[i].time,.fz 2 ((x :: xs)[i].paras.map paA)]):=by
      rw [List.getElem?_map,numL_get _ _ _ hi]
      simp only [Option.map_some,nm,scA,Nat.zero_add,num_last i (by omega)]
     have hgd:List.getD (List.map scA (numL 0 (x :: xs))) i .any=.agg [.str (lastL (i+1)),.int .i64 (x :: xs)[i].place,.str (x :: xs)[i].set,.int .i64 (x :: xs)[i].time,.fz 2 ((x :: xs)[i].paras.map paA)]:=by
      rw [List.getD_eq_getElem?_getD,hget]; rfl
     simp only [go_sem,hlast,hgd]
     have hset:=set_same hget
     refine ⟨by simp [numL_len],by omega,by omega,Nat.le_refl _,by simp [numL_len]; omega,by omega,by omega,?_⟩
     rw [hset,show k'+1+(i:Int)+1=k'+1+((i+1:Nat):Int) by omega,show (i:Int)+1=((i+1:Nat):Int) by omega]
     refine ainv (hJ (i+1) (by omega) (by omega)) (Shift.weak ?_)
     simp only [wk,go_sem]
    ·have di:decide ((i:Int) < ((xs.length+1:Nat):Int))=false:=by simp; omega
     refine AWp.shift (Shift.frz 4 rfl (frozen_scenes _)) ?_
     simp only [Go.Av.put,srA,↓frzC_str,↓frz_str,frzE,frz,frz1,frzC,frzB,List.map_cons,List.map_nil,List.set_cons_succ,List.set_cons_zero,Nat.reduceBEq,cond_true,cond_false,Bool.false_and,Bool.true_and,List.length_map,Nat.zero_add,numL_len,List.length_cons,decide_true,Nat.le_refl,List.drop_zero]
     simp only [htake]
     refine goF (N:=37) Tryz.ntmps8 300 ?_
     simp only [go_sem,di]
     exact aretc [.cell 2 28] rfl [_] ⟨by simp only [go_sem,sideIs,numR],trivial⟩ ⟨_,_,rfl,rfl,by rw [hkf,show i=xs.length+1 by omega]; simp,rfl,rfl⟩
end Go.Proofs.YtnfkjpihaficbaaGreatDoor
set_option linter.unusedSectionVars false
namespace Go.Av
open Go Go.RowKit
variable [Tr]
def likeB:Blk→Blk→Prop
 | .arr e l,.arr e' l'=>e=e'∧l.length=l'.length
 | .arr _ _,_=>False
 | _,.arr _ _=>False
 | _,_=>True
def Like (s s':List Blk):Prop:=∀ id,likeB (s.getD id .dead) (s'.getD id .dead)
theorem likeB_refl:∀ b,likeB b b
 | .arr _ _=>⟨rfl,rfl⟩
 | .mp _=>trivial
 | .it ..=>trivial
 | .dead=>trivial
theorem likeB_symm:∀ {a b},likeB a b→likeB b a:=by
 intro a b h
 cases a <;> cases b <;> first | exact ⟨h.1.symm,h.2.symm⟩ | exact trivial | exact h.elim
theorem Like.symm {s s':List Blk} (h:Like s s'):Like s' s:=fun id=>likeB_symm (h id)
def lenOp:Op→Bool
 | .indexAddr .. | .fieldAddr ..=>true
 | .binOp .add .. | .binOp .sub ..=>true
 | _=>false
def isSto:Op→Bool
 | .store ..=>true
 | _=>false
theorem lenOp_calm {op:Op} (h:lenOp op=true):calm op=true:=by
 cases op <;> first | rfl | (exfalso; revert h; simp [lenOp]; done)
theorem xptrAddIf_like {p:Prop} {s s':List Blk} (h:Like s s') (x:AV) (k:Nat):xptrAddIf p s x k=xptrAddIf p s' x k:=by
 unfold xptrAddIf
 split <;> try rfl
 rename_i id n j off
 have:=h id
 cases h1:s.getD id .dead <;> cases h2:s'.getD id .dead <;> rw [h1,h2] at this <;> first | rfl | exact this.elim | skip
 obtain ⟨rfl,e⟩:=this
 simp only [e]
theorem xop_like {P:Program} {e:Env} {s s':List Blk} (h:Like s s') {op:Op} (ho:lenOp op=true):xop false true P e s op=xop false true P e s' op:=by
 cases op <;> try (exfalso; revert ho; simp [lenOp]; done)
 ·rename_i b t x y t2
  cases b <;> try (exfalso; revert ho; simp [lenOp]; done)
  all_goals
   simp only [xop,xbin3]
   split
   ·rfl
   ·unfold xbin2
    split <;> rfl
 ·rename_i t x f
  simp only [xop,xfieldAddr]
  split
  ·exact xptrAddIf_like h _ _
  ·rfl
 ·rename_i t x i
  simp only [xop]
  generalize ev e x=xv
  generalize ev e i=iv
  generalize P.underlying t=td
  unfold xindexAddr
  split
  ·exact xptrAddIf_like h _ _
  ·cases xv <;> try rfl
   rename_i id off len cap
   have:=h id
   simp only
   cases h1:s.getD id .dead <;> cases h2:s'.getD id .dead <;> rw [h1,h2] at this <;> first | rfl | exact this.elim | skip
   obtain ⟨rfl,he⟩:=this
   simp only [he]
  ·rfl
theorem like_set {s:List Blk} {id e:Nat} {l l':List AV} (h:s.getD id .dead=.arr e l) (hl:l.length=l'.length):Like s (s.set id (.arr e l')):=by
 intro k
 by_cases hk:k=id
 ·subst hk
  have:k < s.length:=by
   rcases Nat.lt_or_ge k s.length with h3 | h3
   ·exact h3
   ·simp [List.getD,List.getElem?_eq_none h3] at h
  have e2:(s.set k (.arr e l')).getD k .dead=.arr e l':=by simp [List.getD,this]
  rw [h,e2]
  exact ⟨rfl,hl⟩
 ·have e2:(s.set id (.arr e l')).getD k .dead=s.getD k .dead:=by
   simp only [List.getD,List.getElem?_set_ne (Ne.symm hk)]
  rw [e2]
  exact likeB_refl _
theorem store_like {c:Cx} {ops:Array Oper} {s s1:List Blk} {o:Oper} {cv v:AV} {e:Env} (ho:isSto o.op=true) (h:Does c ops s o cv e v s1):Like s s1:=by
 have hd:DoesOp c s o cv e v s1→Like s s1:=by
  intro h
  unfold DoesOp at h
  cases hop:o.op <;> rw [hop] at ho h <;> try (exfalso; revert ho; simp [isSto]; done)
  rename_i t x u
  simp only [xop] at h
  generalize ev e x=xv at h
  generalize cellsOf (ev e u)=vs at h
  have hx:∀ q,xstore (tsize c.P t) s xv (ev e u)=q→(∃ p w s3,q=.sto p w s3∧Like s s3)∨q=.stuck:=by
   intro q hq
   subst hq
   cases xv <;> try exact .inr rfl
   rename_i id n j off
   simp only [xstore]
   cases hb:s.getD id .dead with
   | arr e' l=>exact .inl ⟨_,_,_,rfl,like_set hb (by simp)⟩
   | mp es=>exact .inr rfl
   | it a b c=>exact .inr rfl
   | dead=>exact .inr rfl
  rcases hx _ rfl with ⟨p,w,s3,e1,e2⟩ | e1
  ·rw [e1] at h
   simp only at h
   rw [h.2.2.2]
   exact e2
  ·rw [e1] at h
   exact h.elim
 unfold Does at h
 split at h
 ·exact hd h
 ·split at h
  ·rcases h with ⟨_,h⟩ | ⟨_,_,rfl⟩
   ·exact hd h
   ·exact fun _=>likeB_refl _
  ·exact h.elim
theorem DoesOp.like {c:Cx} {s s' s2:List Blk} {o:Oper} {cv v:AV} {e:Env} (hc:lenOp o.op=true) (hl:Like s s2) (h:DoesOp c s o cv e v s'):DoesOp c s2 o cv e v s2:=by
 have hcc:=lenOp_calm hc
 unfold DoesOp at h ⊢
 rw [xop_like hl hc] at h
 split at h <;> rename_i hq
 ·exact ⟨h.1,rfl⟩
 ·exact ⟨h.1,h.2.1,rfl⟩
 ·rw [hcc] at h; cases h.1
 ·exact ⟨h.1,rfl⟩
 ·exact ⟨h.1,h.2.1,h.2.2.1,rfl⟩
 ·exact h.elim
theorem Does.like {c:Cx} {ops:Array Oper} {s s' s2:List Blk} {o:Oper} {cv v:AV} {e:Env} (hc:lenOp o.op=true) (hl:Like s s2) (h:Does c ops s o cv e v s'):Does c ops s2 o cv e v s2:=by
 unfold Does at h ⊢
 split at h
 ·exact h.like hc hl
 ·split at h
  ·rcases h with ⟨h1,h⟩ | ⟨h1,h2,h⟩
   ·exact .inl ⟨h1,h.like hc hl⟩
   ·exact .inr ⟨h1,h2,rfl⟩
  ·exact h.elim
def swp (x y:Oper):Bool:=lenOp x.op && isSto y.op || isSto x.op && lenOp y.op
def okSw (ops:List Oper) (j i:Nat):Bool:=match ops[j]?,ops[i]? with
 | some oj,some oi=>oj.apart ops.toArray oi && (together oj oi || swp oj oi)
 | _,_=>false
section
variable {cx:Cx} {ops:Array Oper} {s:List Blk} {K:Env→List Blk→Prop}
theorem Chain.swapS {opl:List Oper} (hops:ops=opl.toArray) (hK:∀ e e' s,Eqv e e'→K e s→K e' s) {i j:Nat} {r:List Nat} (hok:okSw opl j i=true) {e:Env} {s:List Blk} (c:Chain cx ops K (j :: i :: r) e s) :
  Chain cx ops K (i :: j :: r) e s:=by
 unfold okSw at hok
 split at hok
 rotate_left
 ·cases hok
 rename_i oj oi hj' hi'
 have hj:ops[j]? = some oj:=by rw [hops]; simpa using hj'
 have hi:ops[i]? = some oi:=by rw [hops]; simpa using hi'
 simp only [Bool.and_eq_true,Bool.or_eq_true] at hok
 obtain ⟨ha,hok⟩:=hok
 rw [← hops] at ha
 rcases hok with hok | hok
 ·exact Chain.swap hK hj hi ha hok c
 obtain ⟨a1,a2,a3⟩:=Oper.apart_spec ha
 simp only [Chain,hj,hi] at c ⊢
 obtain ⟨cv,v,s1,h1,cu,u,s2,h2,h3⟩:=c
 have h2':Does cx ops s1 oi cu e u s2:=h2.agree fun t ht=>by
  rw [get_put,if_neg]; intro h; exact a1 t h ht
 have h1':∀ {z z'},Does cx ops z oj cv e v z'→Does cx ops z oj cv (put e oi.dst u) v z':=fun hd=>hd.agree fun t ht=>by
  rw [get_put,if_neg]; intro h; exact a3 t h ht
 have h3':=Chain.congr hK (put_swap a2) h3
 simp only [swp,Bool.or_eq_true,Bool.and_eq_true] at hok
 rcases hok with ⟨c1,c2⟩ | ⟨c1,c2⟩
 ·have e1:=h1.calm (lenOp_calm c1)
  subst e1
  exact ⟨cu,u,_,h2',cv,v,_,h1' (h1.like c1 (store_like c2 h2')),h3'⟩
 ·have e2:=h2.calm (lenOp_calm c2)
  subst e2
  exact ⟨cu,u,_,h2'.like c2 (store_like c1 h1).symm,cv,v,_,h1' h1,h3'⟩
theorem Chain.frontS {opl:List Oper} (hops:ops=opl.toArray) (hK:∀ e e' s,Eqv e e'→K e s→K e' s) {i:Nat} {r:List Nat}:∀ {l:List Nat} {e:Env} {s:List Blk},(∀ j ∈ l,okSw opl j i=true) →
  Chain cx ops K (l++i :: r) e s→Chain cx ops K (i :: (l++r)) e s
 | [],_,_,_,c=>c
 | j :: l,e,s,h,c=>by
  refine Chain.swapS hops hK (h j (by simp)) ?_
  simp only [List.cons_append,Chain] at c ⊢
  split at c
  ·rename_i o ho
   obtain ⟨cv,v,s',h1,h2⟩:=c
   exact ⟨cv,v,s',h1,Chain.frontS hops hK (fun k hk=>h k (by simp [hk])) h2⟩
  ·exact c.elim
end
section
variable {c:Cx} {k:List It} {e:Env} {s:List Blk}
theorem adrawS (cs:List AV) {id:Nat} {ops:List Oper} (hm:c.P.follows .mixedOrders=true) (hok:drawOkG (okSw ops) ops=true) {N:Nat} (hN:c.fn.ntmps=N) (hdst:ops.all (fun o=>dOk N o.dst)=true) (n:Nat)
  (h:dx c ops k n ops cs e s):AWp c (.code (.region id ops.toArray true) :: k) e s:=by
 intro a w hsim
 have hch:=chain_of_dx (m:=0) (by intro j; simp) h
 rw [← List.range_eq_range'] at hch
 refine wp_region_any hm ?_
 have hsim':Sim c e s a { w with drawn:=w.drawn+1 }:=by
  obtain ⟨hh,ρ,hmm,hl,he,hdf,hsz,hX⟩:=hsim
  have sm:Same w { w with drawn:=w.drawn+1 }:=Same.drew w
  exact ⟨hh,ρ,hmm.same sm,hl.trans (Later.same sm),he,hdf,hsz,c.hx.later hmm (Later.same sm) hX⟩
 have hd:∀ o ∈ ops,dOk c.fn.ntmps o.dst=true:=fun o ho=>by rw [hN]; exact (List.all_eq_true.1 hdst) o ho
 refine any_of_gen (okp:=okSw ops) (Chain c ops.toArray (fun e s=>AWp c k e s)) hok (fun e s x=>x) (fun l i r e s hj x=>Chain.frontS rfl AWp.K hj x)
  (fun i o r e s a w Kc ho x hs hK=>?_)
  ops.length (Array.replicate ops.length false) (List.range ops.length) e s a _ (by simp) ?_ (by simp) ?_ hch hsim'
 ·have ho':ops.toArray[i]? = some o:=by simpa using ho
  simp only [Chain,ho'] at x
  obtain ⟨cv,v,s',h1,h2⟩:=x
  exact does_wp hs (hd o (List.mem_of_getElem? ho)) h1 fun a w hs'=>hK _ _ a w h2 hs'
 ·symm
  rw [List.filter_eq_self]
  intro i hi
  simp at hi
  simp [hi]
 ·intro i hi j hj
  exfalso
  by_cases h1:i < ops.length
  ·simp [h1] at hi
  ·unfold waits at hj
   have:ops[i]? = none:=by simp; omega
   simp [this] at hj
end
end Go.Av
namespace Go.Av
open Go Go.RowKit
variable [Tr]
variable {c:Cx} {s:List Blk}
end Go.Av
namespace Go.Av
open Go Go.RowKit
variable [Tr]
theorem Agr.rfl' {n id:Nat} {s:List Blk}:Agr n id s s:=fun _ _ _=>rfl
def ICallC (c:Cx) (n:Nat) (f:FuncId) (args:List AV) (id:Nat) (s:List Blk) (K:AV→List Blk→Prop):Prop :=
 ∃ post:AV→List Blk→Prop,(hasBody c.P f=true∧∀ h ρ w vs,Mine h ρ s w→Later c.h c.ρ c.sto c.w h ρ s w→RL h (Lf ρ s) false vs args→Calls c.P f vs.toArray w fun en w' =>
  ∃ v r s' h' ρ',en=.returned v∧post r s'∧Mine h' ρ' s' w'∧Later h ρ s w h' ρ' s' w'∧RV h' (Lf ρ' s') false v r)∧(∃ r s',post r s')∧∀ r s',post r s'→Agr n id s s'∧K r s'
def ImpC (c:Cx) (n:Nat) (id:Nat) (o:Oper) (e:Env) (s:List Blk) (K:AV→List Blk→Prop):Prop :=
 o.guard=none∧∃ f args,xop false true c.P e s o.op=.call f args∧ICallC c n f args id s K
def ChC (c:Cx) (ops:Array Oper) (im:List Nat) (n0 id:Nat) (K:Env→List Blk→Prop):List Nat→Env→List Blk→Prop
 | [],e,s=>K e s
 | i :: r,e,s=>match ops[i]? with
  | none=>False
  | some o=>bif im.contains i then ImpC c n0 id o e s (fun v s'=>ChC c ops im n0 id K r (put e o.dst v) s')
   else (reader o.op=true→blind o.op=false→opOk n0 id e o.op=true)∧∃ cv v s',Does c ops s o cv e v s'∧ChC c ops im n0 id K r (put e o.dst v) s'
def okC (ops:List Oper) (im:List Nat) (j i:Nat):Bool:=match ops[j]?,ops[i]? with
 | some oj,some oi=>oj.apart ops.toArray oi && (bif im.contains i then !im.contains j && reader oj.op else bif im.contains j then reader oi.op else together oj oi)
 | _,_=>false
section
variable {cx:Cx} {ops:Array Oper} {s:List Blk} {K:Env→List Blk→Prop} {im:List Nat} {n0 id:Nat}
theorem ImpC.agree {o:Oper} {e e':Env} {s:List Blk} {K K':AV→List Blk→Prop} (h:∀ x ∈ o.op.operands,ev e x=ev e' x) (hK:∀ r s,K r s→K' r s) (x:ImpC cx n0 id o e s K):ImpC cx n0 id o e' s K':=by
 obtain ⟨h1,f,args,h2,post,h4,h5,h6⟩:=x
 exact ⟨h1,f,args,by rw [← xop_agree h]; exact h2,post,h4,h5,fun r b hp=>⟨(h6 r b hp).1,hK _ _ (h6 r b hp).2⟩⟩
theorem ChC.congr (hK:∀ e e' s,Eqv e e'→K e s→K e' s):∀ {l:List Nat} {e e':Env} {s:List Blk},Eqv e e'→ChC cx ops im n0 id K l e s→ChC cx ops im n0 id K l e' s
 | [],e,e',s,h,x=>hK e e' s h x
 | i :: r,e,e',s,h,x=>by
  unfold ChC at x ⊢
  split at x
  ·exact x.elim
  ·rename_i o ho
   cases hi:im.contains i with
   | true =>
    rw [hi] at x
    exact ImpC.agree (fun y _=>ev_agree fun t _=>h t) (fun r' s' z=>ChC.congr hK (h.put _ _) z) x
   | false =>
    rw [hi] at x
    obtain ⟨h1,cv,v,s',h2,h3⟩:=x
    exact ⟨fun hr hb=>by rw [← opOk_agree (e:=e) (fun y _=>ev_agree fun t _=>h t)]; exact h1 hr hb,cv,v,s',h2.agree fun t _=>h t,ChC.congr hK (h.put _ _) h3⟩
theorem ChC.swap {opl:List Oper} (hops:ops=opl.toArray) (hK:∀ e e' s,Eqv e e'→K e s→K e' s) {i j:Nat} {r:List Nat} (hok:okC opl im j i=true) {e:Env} {s:List Blk} (x:ChC cx ops im n0 id K (j :: i :: r) e s) :
  ChC cx ops im n0 id K (i :: j :: r) e s:=by
 unfold okC at hok
 split at hok
 rotate_left
 ·cases hok
 rename_i oj oi hj' hi'
 have hj:ops[j]? = some oj:=by rw [hops]; simpa using hj'
 have hi:ops[i]? = some oi:=by rw [hops]; simpa using hi'
 simp only [Bool.and_eq_true] at hok
 obtain ⟨ha,hok⟩:=hok
 rw [← hops] at ha
 obtain ⟨a1,a2,a3⟩:=Oper.apart_spec ha
 have gi:∀ (e:Env) (v:AV),Agree ops oi (put e oj.dst v) e:=fun e v t ht=>by
  rw [get_put,if_neg]; intro h; exact a1 t h ht
 have gj:∀ (e:Env) (v:AV),Agree ops oj e (put e oi.dst v):=fun e v t ht=>by
  rw [get_put,if_neg]; intro h; exact a3 t h ht
 have sw:∀ (e:Env) (v u:AV),Eqv (put (put e oj.dst v) oi.dst u) (put (put e oi.dst u) oj.dst v):=fun e v u=>put_swap a2
 simp only [ChC,hi,hj] at x ⊢
 cases mi:im.contains i with
 | true =>
  rw [mi] at hok x
  simp only [cond_true,Bool.and_eq_true,Bool.not_eq_true'] at hok
  obtain ⟨mj,rj⟩:=hok
  rw [mj] at x ⊢
  simp only [cond_true,cond_false] at x ⊢
  obtain ⟨o1,cv,v,s',d1,y⟩:=x
  obtain ⟨rfl,_⟩:=does_reader rj (o1 rj) (Agr.rfl' (n:=n0) (id:=id)) d1
  obtain ⟨h1,f,args,h2,post,h4,h5,h6⟩:=y
  refine ⟨h1,f,args,by rw [← xop_agree (agree_ops (gi e v))]; exact h2,post,h4,h5,fun u b hp=>?_⟩
  obtain ⟨ag,hy⟩:=h6 u b hp
  have hs:=(does_reader rj (o1 rj) ag d1).2
  refine ⟨ag,fun _ hb=>?_,cv,v,_,hs.agree (gj e u),ChC.congr hK (sw e v u) hy⟩
  rw [← opOk_agree (e:=e) (agree_ops (gj e u))]
  exact o1 rj hb
 | false =>
  rw [mi] at hok x
  simp only [cond_false] at hok x ⊢
  cases mj:im.contains j with
  | true =>
   rw [mj] at hok x
   simp only [cond_true] at hok x ⊢
   obtain ⟨h1,f,args,h2,post,h4,⟨u0,b0,h5⟩,h6⟩:=x
   obtain ⟨ag0,o0,cv0,v0,s0,d0,z0⟩:=h6 u0 b0 h5
   have ok0:blind oi.op=false→opOk n0 id e oi.op=true:=fun hb=>by
    have:=o0 hok hb
    rw [opOk_agree (agree_ops (gi e u0))] at this
    exact this
   have d0':Does cx ops b0 oi cv0 e v0 s0:=d0.agree (gi e u0)
   have d0s:=(does_reader hok ok0 ag0.symm d0').2
   refine ⟨fun _=>ok0,cv0,v0,s,d0s,h1,f,args,?_,post,h4,⟨u0,b0,h5⟩,fun u b hp=>?_⟩
   ·rw [← xop_agree (agree_ops (gj e v0))]; exact h2
   ·obtain ⟨ag,_,cv,v,s',d,y⟩:=h6 u b hp
    have d':Does cx ops b oi cv e v s':=d.agree (gi e u)
    obtain ⟨e1,ds⟩:=does_reader hok ok0 ag.symm d'
    subst e1
    have:=does_det hok d0s ds
    subst this
    exact ⟨ag,ChC.congr hK (sw e u v0) y⟩
  | false =>
   rw [mj] at hok x
   simp only [cond_false] at hok x ⊢
   obtain ⟨o1,cv,v,s1,h1,o2,cu,u,s2,h2,h3⟩:=x
   have h2':Does cx ops s1 oi cu e u s2:=h2.agree (gi e v)
   have h1':∀ {z z'},Does cx ops z oj cv e v z'→Does cx ops z oj cv (put e oi.dst u) v z':=fun hd=>hd.agree (gj e u)
   have h3':=ChC.congr hK (sw e v u) h3
   have oi':∀ {n},reader oi.op=true→opOk n id (put e oj.dst v) oi.op=opOk n id e oi.op:=fun _=>opOk_agree (agree_ops (gi e v))
   have oj':∀ {n},opOk n id e oj.op=opOk n id (put e oi.dst u) oj.op:=opOk_agree (agree_ops (gj e u))
   simp only [Bool.or_eq_true,Bool.and_eq_true,together] at hok
   rcases hok with (⟨c1,c2⟩ | c1) | c1
   ·have e1:=h1.calm c1
    subst e1
    have e2:=h2.calm c2
    subst e2
    exact ⟨fun hr hb=>by rw [← oi' hr]; exact o2 hr hb,cu,u,_,h2',fun hr hb=>by rw [← oj']; exact o1 hr hb,cv,v,_,h1' h1,h3'⟩
   ·have e1:=h1.calm (blind_calm c1)
    subst e1
    exact ⟨fun hr hb=>by rw [← oi' hr]; exact o2 hr hb,cu,u,_,h2',fun hr hb=>(by rw [c1] at hb; cases hb),cv,v,_,h1' (h1.blind c1),h3'⟩
   ·have e2:=h2.calm (blind_calm c1)
    subst e2
    exact ⟨fun hr hb=>(by rw [c1] at hb; cases hb),cu,u,_,h2'.blind c1,fun hr hb=>by rw [← oj']; exact o1 hr hb,cv,v,_,h1' h1,h3'⟩
theorem ChC.front {opl:List Oper} (hops:ops=opl.toArray) (hK:∀ e e' s,Eqv e e'→K e s→K e' s):∀ (l:List Nat) (i:Nat) (r:List Nat) (e:Env) (s:List Blk),(∀ j ∈ l,okC opl im j i=true) →
  ChC cx ops im n0 id K (l++i :: r) e s→ChC cx ops im n0 id K (i :: (l++r)) e s
 | [],_,_,_,_,_,x=>x
 | j :: l,i,r,e,s,h,x=>by
  refine ChC.swap hops hK (h j (by simp)) ?_
  have ih:=fun e s=>ChC.front hops hK l i r e s fun k hk=>h k (by simp [hk])
  simp only [List.cons_append,ChC] at x ⊢
  split at x
  ·exact x.elim
  ·rename_i o ho
   cases hm:im.contains j with
   | true =>
    rw [hm] at x
    exact ImpC.agree (fun _ _=>rfl) (fun r' s' z=>ih _ _ z) x
   | false =>
    rw [hm] at x
    obtain ⟨h1,cv,v,s',h2,h3⟩:=x
    exact ⟨h1,cv,v,s',h2,ih _ _ h3⟩
end
section
variable {c:Cx} {k:List It} {e:Env} {s:List Blk}
theorem chC_step {ops:List Oper} {im:List Nat} {n0 id:Nat} (hdst:∀ o ∈ ops,dOk c.fn.ntmps o.dst=true) (i:Nat) (o:Oper) (r:List Nat) (e:Env) (s:List Blk) (a:Act) (w:World) (Kc:Act→World→Prop) (ho:ops[i]? = some o)
  (x:ChC c ops.toArray im n0 id (fun e s=>AWp c k e s) (i :: r) e s) (hs:Sim c e s a w) (hK:∀ e' s' a w,ChC c ops.toArray im n0 id (fun e s=>AWp c k e s) r e' s'→Sim c e' s' a w→Kc a w) :
  if Region.wanted o (yielded ops.toArray a.tmps) then o.wp c.P a w Kc (WQ c k) else Kc (a.put o.dst undef) w:=by
 have ho':ops.toArray[i]? = some o:=by simpa using ho
 have hd:=hdst o (List.mem_of_getElem? ho)
 simp only [ChC,ho'] at x
 cases hm:im.contains i with
 | false =>
  rw [hm] at x
  obtain ⟨_,cv,v,s',h2,h3⟩:=x
  exact does_wp hs hd h2 fun a w hs'=>hK _ _ a w h3 hs'
 | true =>
  rw [hm] at x
  obtain ⟨hg,f,args,hx,post,h4,_,h6⟩:=x
  rw [if_pos (by simp [Region.wanted,hg])]
  obtain ⟨hh,ρ,hmm,hl,he,hdf,hsz,hX⟩:=hs
  have hsnd:=xop_sound (P:=c.P) (wr:=false) (frz:=true) (o:=o) hmm he
  rw [hx] at hsnd
  obtain ⟨vs,hv,hr⟩:=hsnd
  unfold Oper.wp
  rw [hr h4.1]
  refine (h4.2 hh ρ w vs hmm hl hv).mono ?_
  rintro en w' ⟨u,r',b,h',ρ',rfl,hp,hm',hlt,rv⟩
  have he':EnvOk h' ρ' b e a:=fun t=>(he t).mono hlt.hle hlt.keep
  exact hK _ _ _ _ (h6 r' b hp).2 ⟨h',ρ',hm',hl.trans hlt,he'.put (by rw [hsz]; exact hd) rv,by rw [put_defers']; exact hdf,by rw [put_size]; exact hsz,c.hx.later hmm hlt hX⟩
mutual
def dxn (c:Cx) (all:List Oper) (im:List Nat) (n0 id:Nat) (k:List It):Nat→List Oper→List AV→Env→List Blk→Prop
 | _,[],_,e,s=>AWp c k e s
 | 0,_ :: _,_,_,_=>False
 | n+1,o :: r,cs,e,s=>bif im.contains (rix all (o :: r)) then
   (match o.guard,xop false true c.P e s o.op with
    | none,.call f args=>ICallC c n0 f args id s (fun v s'=>dxn c all im n0 id k n r cs (put e o.dst v) s')
    | _,_=>False)
  else dck (reader o.op && !blind o.op) n0 id e o.op∧dxnc c all im n0 id k n (dgrd c all s o r cs e o.guard)
def dxnc (c:Cx) (all:List Oper) (im:List Nat) (n0 id:Nat) (k:List It):Nat→Dn→Prop
 | n,.go r cs e s=>dxn c all im n0 id k n r cs e s
 | n,.two b r cs e r' cs' e' s=>dbrn c all im n0 id k n b r cs e r' cs' e' s
 | n,.side p r cs e s=>p∧dxn c all im n0 id k n r cs e s
 | _,.fail=>False
def dbrn (c:Cx) (all:List Oper) (im:List Nat) (n0 id:Nat) (k:List It):Nat→Bool→List Oper→List AV→Env→List Oper→List AV→Env→List Blk→Prop
 | 0,_,_,_,_,_,_,_,_=>False
 | n+1,b,r,cs,e,r',cs',e',s=>(b=true→dxn c all im n0 id k n r cs e s)∧(b=false→dxn c all im n0 id k n r' cs' e' s)
end
theorem dbrn_true {all:List Oper} {im:List Nat} {n0 id n:Nat} {r cs e r' cs' e' s}:dbrn c all im n0 id k (n+1) true r cs e r' cs' e' s=dxn c all im n0 id k n r cs e s:=by rw [dbrn]; simp
theorem dbrn_false {all:List Oper} {im:List Nat} {n0 id n:Nat} {r cs e r' cs' e' s}:dbrn c all im n0 id k (n+1) false r cs e r' cs' e' s=dxn c all im n0 id k n r' cs' e' s:=by rw [dbrn]; simp
theorem dxn_op {all:List Oper} {im:List Nat} {n0 id n:Nat} {o:Oper} {r:List Oper} {cs:List AV} (hm:im.contains (rix all (o :: r))=false) (hg:o.guard=none) (h:dxn c all im n0 id k n (o :: r) cs e s) :
  dck (reader o.op && !blind o.op) n0 id e o.op∧∃ cv v n' cs' s',DoesOp c s o cv e v s'∧dxn c all im n0 id k n' r cs' (put e o.dst v) s':=by
 cases n with
 | zero=>rw [dxn] at h; exact h.elim
 | succ n =>
  rw [dxn,hm] at h
  simp only [cond_false] at h
  refine ⟨h.1,?_⟩
  replace h:=h.2
  rw [hg] at h
  unfold dgrd at h
  unfold DoesOp
  revert h
  cases xop false true c.P e s o.op with
  | ok u=>intro h; simp only [dres,dxnc] at h; exact ⟨.any,u,n,cs,s,⟨rfl,rfl⟩,h⟩
  | side p u=>intro h; simp only [dres,dxnc] at h; exact ⟨.any,u,n,cs,s,⟨h.1,rfl,rfl⟩,h.2⟩
  | sto p u s'=>intro h; simp only [dres,dxnc] at h; exact ⟨.any,u,n,cs,s',⟨h.1.1,h.1.2,rfl,rfl⟩,h.2⟩
  | pick b x y =>
   intro h; simp only [dres,dxnc] at h
   cases n with
   | zero=>rw [dbrn] at h; exact h.elim
   | succ n =>
   rw [dbrn] at h
   refine ⟨.any,_,n,cs,s,⟨rfl,rfl⟩,?_⟩
   cases b with
   | true=>exact h.1 rfl
   | false=>exact h.2 rfl
  | call f args =>
   intro h; simp only [dres] at h
   cases cs with
   | nil=>simp only [dcall,dxnc] at h
   | cons cv cs=>simp only [dcall,dxnc] at h; exact ⟨cv,cv,n,cs,s,⟨h.1.1,h.1.2,rfl,rfl⟩,h.2⟩
  | anyb p=>intro h; simp only [dres,dxnc] at h
  | stuck=>intro h; simp only [dres,dxnc] at h
theorem dxn_step {all:List Oper} {im:List Nat} {n0 id n:Nat} {o:Oper} {r:List Oper} {cs:List AV} (hm:im.contains (rix all (o :: r))=false) (h:dxn c all im n0 id k n (o :: r) cs e s) :
  dck (reader o.op && !blind o.op) n0 id e o.op∧∃ cv v n' cs' s',Does c all.toArray s o cv e v s'∧dxn c all im n0 id k n' r cs' (put e o.dst v) s':=by
 cases hg:o.guard with
 | none =>
  obtain ⟨h0,cv,v,n',cs',s',h1,h2⟩:=dxn_op hm hg h
  exact ⟨h0,cv,v,n',cs',s',by unfold Does; rw [hg]; exact h1,h2⟩
 | some jw =>
  obtain ⟨j,want⟩:=jw
  cases n with
  | zero=>rw [dxn] at h; exact h.elim
  | succ n =>
   rw [dxn,hm] at h
   simp only [cond_false] at h
   refine ⟨h.1,?_⟩
   replace h:=h.2
   rw [hg] at h
   unfold dgrd dyld at h
   cases hy:yldD want e all[j]? with
   | none=>simp only [hy,dxnc] at h
   | some b =>
    simp only [hy] at h
    have key:(b=want→∃ n',dxn c all im n0 id k n' ({ o with guard:=none } :: r) cs e s)∧(b ≠ want→∃ n',dxn c all im n0 id k n' r cs (put e o.dst (.raw undef)) s):=by
     cases n with
     | zero=>cases want <;> simp only [cond_true,cond_false,dxnc,dbrn] at h
     | succ n =>
      cases want <;> simp only [cond_true,cond_false,dxnc,dbrn] at h <;> cases b <;>
       first
       | exact ⟨fun _=>⟨n,h.1 rfl⟩,fun hh=>(hh rfl).elim⟩
       | exact ⟨fun _=>⟨n,h.2 rfl⟩,fun hh=>(hh rfl).elim⟩
       | exact ⟨fun hh=>(by cases hh),fun _=>⟨n,h.1 rfl⟩⟩
       | exact ⟨fun hh=>(by cases hh),fun _=>⟨n,h.2 rfl⟩⟩
    have hy':yldD want e all.toArray[j]? = some b:=by simpa using hy
    by_cases hb:b=want
    ·obtain ⟨n1,h1⟩:=key.1 hb
     obtain ⟨_,cv,v,n',cs',s',h1,h2⟩:=dxn_op (o:={ o with guard:=none }) (by exact hm) rfl h1
     refine ⟨cv,v,n',cs',s',?_,h2⟩
     unfold Does
     rw [hg]
     simp only [hy']
     exact .inl ⟨hb,h1⟩
    ·obtain ⟨n1,h1⟩:=key.2 hb
     refine ⟨.any,.raw undef,n1,cs,s,?_,h1⟩
     unfold Does
     rw [hg]
     simp only [hy']
     exact .inr ⟨hb,trivial,trivial⟩
theorem chC_of_dxn {all:List Oper} {im:List Nat} {n0 id:Nat}:∀ {r:List Oper} {m n:Nat} {cs:List AV} {e:Env} {s:List Blk},(∀ (j:Nat),r[j]? = all[m+j]?)→all.length=m+r.length→dxn c all im n0 id k n r cs e s→ChC c all.toArray im n0 id (fun e s=>AWp c k e s) (List.range' m r.length) e s
 | [],m,n,cs,e,s,_,_,h=>by
  rw [dxn] at h
  exact h
 | o :: r,m,n,cs,e,s,hr,hlen,h=>by
  have h0:all.toArray[m]? = some o:=by have:=hr 0; simpa using this.symm
  have hix:rix all (o :: r)=m:=by unfold rix; omega
  have hr':∀ j,r[j]? = all[m+1+j]?:=fun j=>by have:=hr (j+1); simpa [Nat.add_assoc,Nat.add_comm 1 j] using this
  simp only [List.length_cons,List.range'_succ,ChC,h0]
  cases hm:im.contains m with
  | true =>
   simp only [cond_true]
   cases n with
   | zero=>rw [dxn] at h; exact h.elim
   | succ n =>
    rw [dxn,hix,hm] at h
    simp only [cond_true] at h
    split at h
    ·rename_i f args hg hx
     obtain ⟨post,h4,h5,h6⟩:=h
     exact ⟨hg,f,args,hx,post,h4,h5,fun u b hp=>⟨(h6 u b hp).1,chC_of_dxn hr' (by simp at hlen; omega) (h6 u b hp).2⟩⟩
    ·exact h.elim
  | false =>
   simp only [cond_false]
   obtain ⟨hd,cv,v,n',cs',s',h1,h2⟩:=dxn_step (by rw [hix]; exact hm) h
   refine ⟨fun hr hb=>?_,cv,v,s',h1,chC_of_dxn hr' (by simp at hlen; omega) h2⟩
   unfold dck at hd
   simpa [hr,hb] using hd
theorem adrawC (im:List Nat) (bid:Nat) (cs:List AV) {id:Nat} {ops:List Oper} (hm:c.P.follows .mixedOrders=true) (hok:drawOkG (okC ops im) ops=true) {N:Nat} (hN:c.fn.ntmps=N) (hdst:ops.all (fun o=>dOk N o.dst)=true) (n:Nat)
  (h:dxn c ops im s.length bid k n ops cs e s):AWp c (.code (.region id ops.toArray true) :: k) e s:=by
 intro a w hsim
 obtain ⟨n1,hn1⟩:∃ n1,n1=s.length:=⟨_,rfl⟩
 rw [← hn1] at h
 have hch:=chC_of_dxn (m:=0) (by intro j; simp) (by simp) h
 rw [← List.range_eq_range'] at hch
 refine wp_region_any hm ?_
 have hsim':Sim c e s a { w with drawn:=w.drawn+1 }:=by
  obtain ⟨hh,ρ,hmm,hl,he,hdf,hsz,hX⟩:=hsim
  have sm:Same w { w with drawn:=w.drawn+1 }:=Same.drew w
  exact ⟨hh,ρ,hmm.same sm,hl.trans (Later.same sm),he,hdf,hsz,c.hx.later hmm (Later.same sm) hX⟩
 have hd:∀ o ∈ ops,dOk c.fn.ntmps o.dst=true:=fun o ho=>by rw [hN]; exact (List.all_eq_true.1 hdst) o ho
 refine any_of_gen (okp:=okC ops im) (ChC c ops.toArray im n1 bid (fun e s=>AWp c k e s)) hok (fun e s x=>x) (fun l i r e s hj x=>ChC.front rfl AWp.K l i r e s hj x) (fun i o r e s a w Kc ho x hs hK=>chC_step hd i o r e s a w Kc ho x hs hK)
  ops.length (Array.replicate ops.length false) (List.range ops.length) e s a _ (by simp) ?_ (by simp) ?_ hch hsim'
 ·symm
  rw [List.filter_eq_self]
  intro i hi
  simp at hi
  simp [hi]
 ·intro i hi j hj
  exfalso
  by_cases h1:i < ops.length
  ·simp [h1] at hi
  ·unfold waits at hj
   have:ops[i]? = none:=by simp; omega
   simp [this] at hj
theorem icc {n:Nat} {f:FuncId} {args:List AV} {post:AV→List Blk→Prop} {K:AV→List Blk→Prop} {id:Nat} (hc:Ct c.P f args s post) (hin:∃ r s',post r s') (hk:∀ r s',post r s'→Agr n id s s'∧K r s'):ICallC c n f args id s K :=
 ⟨post,⟨hc.1,fun h ρ w vs m l rr=>hc.2 h ρ w vs m rr⟩,hin,hk⟩
theorem Agr.push' {n id:Nat} {s:List Blk} (h:n ≤ s.length) (t:List Blk):Agr n id s (s++t):=fun i hi _=>by
 rw [List.getD_eq_getElem?_getD,List.getD_eq_getElem?_getD,List.getElem?_append_left (by omega)]
theorem Agr.set' {n id:Nat} {s:List Blk} (b:Blk):Agr n id s (s.set id b):=fun i hi hne=>by
 rw [List.getD_eq_getElem?_getD,List.getD_eq_getElem?_getD,List.getElem?_set_ne (Ne.symm hne)]
theorem icc_mc {n:Nat} {f:FuncId} {es:Nat} {agg:AV} {args:List AV} {post:AV→AV→Prop} {K:AV→List Blk→Prop} (hc:Mc c.P f es agg args post) (ha:args.all nr1=true) (hg:nr1 agg=true) {id:Nat} (hid:s[id]? = some (.arr es [agg]))
  (hin:∃ r agg',post r agg'∧nr1 agg'=true) (hk:∀ r agg',post r agg'→K r (s.set id (.arr es [agg']))):ICallC c n f (.ptr id 1 0 0 :: args) id s K :=
 icc (hc.ct ha hg hid) (hin.elim fun r h=>h.elim fun a h=>⟨r,_,a,h.1,h.2,rfl⟩) fun r s' h=>by
  obtain ⟨a,h1,_,rfl⟩:=h
  exact ⟨.set' _,hk r a h1⟩
end
end Go.Av
