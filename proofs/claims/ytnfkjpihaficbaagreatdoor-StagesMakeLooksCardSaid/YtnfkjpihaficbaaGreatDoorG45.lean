/- slices.Equal at looks. Own work of this seat. -/
import Derived.Test.YtnfkjpihaficbaaGreatDoorG42
import Derived.Test.YtnfkjpihaficbaaGreatDoorG44
import Derived.Shelf.SlMaps.Clone
import Derived.Shelf.SlGeneric
set_option maxRecDepth 100000
set_option linter.unusedSimpArgs false
set_option linter.unusedVariables false
namespace Go.Proofs.YtnfkjpihaficbaaGreatDoor
open Go Go.Av Go.RowKit
set_option maxHeartbeats 1000000 in
theorem eqLk_pc (a b:List Lk) (ha:a.length < 100000) (hb:b.length < 100000):Pc Tryz.prog 22 [.fz 4 (a.map lookA),.fz 4 (b.map lookA)] (· = .bool (decide (a=b))):=by
 by_cases hlen:a.length=b.length
 ·have d0:((a.length:Int) != (b.length:Int))=false:=by simp [hlen]
  refine pc_intro (ct_intro Tryz.func22 rfl Tryz.ntmps22 hB22 (by simp) fun h ρ w=>goB (N:=26) Tryz.ntmps22 300 ?_)
  simp only [go_sem,d0,List.length_map]
  refine aloop (ι:=Nat) (fun i=>a.length - i) (fun i=>[(13,.int .i64 i),(12,.int .i64 a.length),(1,.fz 4 (b.map lookA)),(0,.fz 4 (a.map lookA))]) (fun _=>[]) (fun i=>i ≤ a.length∧a.take i=b.take i) 0 ⟨by simp,rfl⟩ ?_ ?_
  ·refine Shift.weak ?_
   simp only [wk,go_sem]
  ·rintro i ⟨g1,g2⟩ J hJ
   by_cases gi:i < a.length
   ·have di:decide ((i:Int) < (a.length:Int))=true:=by simp; omega
    have gb:i < b.length:=by omega
    have h1:=lookA_get a i gi
    have h2:=lookA_get b i gb
    by_cases he:a[i]=b[i]
    ·have hfin:=hJ (i+1) ⟨by omega,by rw [List.take_succ_eq_append_getElem gi,List.take_succ_eq_append_getElem gb,g2,he]⟩ (by omega)
     rw [he] at h1
     generalize b[i]=e at *
     refine goB (N:=26) Tryz.ntmps22 300 ?_
     simp only [go_sem,di]
     refine adraw [] mixed (by decide) (N:=26) Tryz.ntmps22 (by decide) 100 ?_
     simp only [go_sem,h1,h2,beq_self_eq_true,Bool.and_self,Bool.not_true,List.length_map]
     repeat refine And.intro (by first | omega | rfl | kernel_rfl | (simp; done) | (simp; omega)) ?_
     refine goB (N:=26) Tryz.ntmps22 300 ?_
     simp only [go_sem]
     repeat refine And.intro (by first | omega | (simp; done) | (simp; omega)) ?_
     rw [show (i:Int)+1=((i+1:Nat):Int) by omega]
     refine ainv hfin (Shift.weak ?_)
     simp only [wk,go_sem]
    ·have hne:a ≠ b:=fun h=>he (by subst h; rfl)
     have hx:((a[i].el.kind == b[i].el.kind && a[i].el.name == b[i].el.name) && (a[i].facet == b[i].facet && a[i].value == b[i].value))=false:=by
      cases hq:((a[i].el.kind == b[i].el.kind && a[i].el.name == b[i].el.name) && (a[i].facet == b[i].facet && a[i].value == b[i].value)) with
      | false=>rfl
      | true =>
       exfalso
       apply he
       simp only [Bool.and_eq_true,beq_iff_eq] at hq
       obtain ⟨⟨q1,q2⟩,q3,q4⟩:=hq
       generalize a[i]=x at *
       generalize b[i]=y at *
       obtain ⟨⟨_,_⟩,_,_⟩:=x
       obtain ⟨⟨_,_⟩,_,_⟩:=y
       simp_all
     generalize a[i]=x at *
     generalize b[i]=y at *
     refine goB (N:=26) Tryz.ntmps22 300 ?_
     simp only [go_sem,di]
     refine adraw [] mixed (by decide) (N:=26) Tryz.ntmps22 (by decide) 100 ?_
     simp only [go_sem,h1,h2,hx,List.length_map]
     repeat refine And.intro (by first | omega | rfl | kernel_rfl | (simp; done) | (simp; omega)) ?_
     refine goB (N:=26) Tryz.ntmps22 300 ?_
     simp only [go_sem]
     exact aret [4] rfl ⟨by simp [resV,Av.get,Av.put,hne],rfl⟩
   ·have di:decide ((i:Int) < (a.length:Int))=false:=by simp; omega
    rw [List.take_of_length_le (by omega),List.take_of_length_le (by omega)] at g2
    refine goB (N:=26) Tryz.ntmps22 300 ?_
    simp only [go_sem,di]
    exact aret [4] rfl ⟨by simp [resV,Av.get,Av.put,g2],rfl⟩
 ·have d0:((a.length:Int) != (b.length:Int))=true:=by simp; omega
  have hne:a ≠ b:=fun h=>hlen (by rw [h])
  refine pc_intro (ct_intro Tryz.func22 rfl Tryz.ntmps22 hB22 (by simp) fun h ρ w=>goB (N:=26) Tryz.ntmps22 300 ?_)
  simp only [go_sem,d0,List.length_map]
  exact aret [4] rfl ⟨by simp [resV,Av.get,Av.put,hne],rfl⟩
theorem sh_looks (n:Nat):∀ l:List Lk,(l.map lookA).map (shC n)=l.map lookA
 | []=>rfl
 | a :: l=>by
  rw [List.map_cons,List.map_cons,sh_looks n l]
  rfl
theorem looksN_cth {S:Std} (hS:LibOk S) (x:Sr) (hx:StoryOk x) (js:List Jm) (hj:JumpsOk x js) (fs:List Fa) (hf:FactsOk x fs) (n:Nat) (hn:n < x.scenes.length) (s:List Blk) :
  CtH Tryz.prog S 21 [srA x,.fz 4 (js.map jmA),.fz 5 (fs.map faA),.str x.scenes[n].no] s (fun r s'=>∃ l,LooksOf (looksAt x js fs n) l∧r=.tup [.sl s.length 0 l.length l.length,.int .i64 0]∧s'=s++[.arr 4 (l.map lookA)]) :=
 CtH.imp ((looks_cth hS x hx js hj fs hf n hn).liftN rfl (by rintro _ _ ⟨l,_,_,rfl⟩; rfl) s) (by
  rintro _ _ ⟨_,_,⟨l,hl,rfl,rfl⟩,rfl,rfl⟩
  refine ⟨l,hl,?_,?_⟩
  ·show AV.tup [.sl (0+s.length) 0 l.length l.length,.int .i64 0]=_
   rw [Nat.zero_add]
  ·show s++[Blk.arr 4 ((l.map lookA).map (shC s.length))]=_
   rw [sh_looks])
def looksL (x:Sr) (js:List Jm) (fs:List Fa) (k:Nat):List Lk:=sortedLk (looksAt x js fs k)
theorem looksAt_uniq (x:Sr) (js:List Jm) (fs:List Fa) (k:Nat):Tuniq (looksAt x js fs k):=lrun_uniq _
theorem looksL_len {x:Sr} (hx:StoryOk x) {js:List Jm} (hj:JumpsOk x js) {fs:List Fa} (hf:FactsOk x fs) (k:Nat):(looksL x js fs k).length ≤ 8:=by
 have h1:=sortedLk_len (looksAt_uniq x js fs k)
 have h2:=esAt_len (kfN x) fs (ordL x js) ((ordL_perm hx hj).symm.nodup List.nodup_range) ((ordL x js).idxOf k+1)
 have h3:=hf.len
 unfold looksAt at h1
 unfold looksL looksAt
 omega
end Go.Proofs.YtnfkjpihaficbaaGreatDoor
set_option linter.unusedSectionVars false
namespace Go.Av
open Go Go.RowKit Go.Shelf Go.Proofs
variable [Tr]
theorem mapsClone_ct {P:Program} {ρr:Ren} (L:SlLaysW.n5 P ρr) (hbf:hasBody P (ρr.f 5)=true) {s:List Blk} {id:Nat} {es:List (AV × AV)} (hs:s[id]? = some (.mp es)) :
  Ct P (ρr.f 5) [.mp id] s (fun r s'=>r=.mp s.length∧s'=s++[.mp es]):=by
 refine ⟨hbf,fun h ρ w vs m r=>?_⟩
 cases r with
 | @cons _ v0 _ _ _ r0 r =>
  cases r
  have hl:=(inv_mp r0).2
  simp only [LfC,hs] at hl
  obtain ⟨g,hg,rfl⟩:=hl
  obtain ⟨g',en,clock,o1,o2,o3,o4,o5⟩:=m.own id _ hs
  rw [hg] at o1
  cases o1
  have hm:=m.push (.map en clock) (.mp es) (some 0) ⟨w.heap.size,en,clock,by simp [upd],(MapKept.heap_alloc w _).1,o3,fun k x y hx hy=>⟨(o4 k x y hx hy).1.mono (fun _ _ _ z=>z) (fun _ _ z=>Lf_push z),(o4 k x y hx hy).2.mono (fun _ _ _ z=>z) (fun _ _ z=>Lf_push z)⟩,o5⟩
  refine (AnyW.maps_Clone L g en clock w o2).mono ?_
  rintro e w' ⟨rfl,rfl⟩
  exact ⟨_,_,_,h,_,rfl,⟨rfl,rfl⟩,hm.1,hm.2,.leaf ⟨rfl,by simp [LfC,upd]⟩⟩
end Go.Av
namespace Go.Proofs
open Go.Shelf
def Tryz.mclone_ren:Go.Shelf.Ren:=⟨fun | 5=>80 | 7=>134 | n=>n,fun | 23=>146 | 25=>160 | 3=>9 | 4=>4 | 20=>20 | n=>n,fun | n=>n⟩
theorem Tryz.mclone:Go.Proofs.SlLaysW.n5 Tryz.prog Tryz.mclone_ren:={
 mixed:=by kernel_rfl
 f5:=⟨Tryz.f80.name,by decide,Tryz.func80.trans (congrArg some (by kernel_rfl))⟩
 f7:=Tryz.func134.trans (congrArg some (by kernel_rfl))
 t4:=Tryz.underlying4
 a4:=Tryz.isAgg4
 z4:=Tryz.sizeOf4
 v4:=Tryz.zeroValue4
 t20:=Tryz.underlying20
 a20:=Tryz.isAgg20
 z20:=Tryz.sizeOf20
 v20:=Tryz.zeroValue20
 t23:=Tryz.underlying146
 a23:=Tryz.isAgg146
 z23:=Tryz.sizeOf146
 v23:=Tryz.zeroValue146 }
end Go.Proofs
namespace Go.Proofs.YtnfkjpihaficbaaGreatDoor
open Go Go.Av Go.RowKit
def keepE (e:El) (x:LKey × List UInt8):Option (LKey × List UInt8):=if x.1.1=e then some x else none
def fltL (e:El) (es:LMap):LMap:=es.map fun o=>o.bind (keepE e)
theorem fltL_len (e:El) (es:LMap):(fltL e es).length=es.length:=by simp [fltL]
theorem fltL_val (e:El) (k:LKey):∀ es:LMap,tval k (fltL e es)=if k.1=e then tval k es else none
 | []=>by simp [fltL,tval]
 | none :: r=>by
  have ih:=fltL_val e k r
  simp only [fltL,List.map_cons,Option.bind_none,tval] at ih ⊢
  exact ih
 | some x :: r=>by
  have ih:=fltL_val e k r
  simp only [fltL,List.map_cons,Option.bind_some,keepE] at ih ⊢
  by_cases h:x.1.1=e
  ·rw [if_pos h]
   simp only [tval]
   by_cases h2:x.1=k
   ·rw [if_pos h2,if_pos h2,if_pos (by rw [← h2]; exact h)]
   ·rw [if_neg h2,if_neg h2,ih]
  ·rw [if_neg h]
   simp only [tval]
   rw [ih]
   by_cases h2:x.1=k
   ·have:¬ k.1=e:=by rw [← h2]; exact h
    simp [this]
   ·rw [if_neg h2]
theorem fltL_uniq (e:El) {es:LMap} (hu:Tuniq es):Tuniq (fltL e es):=by
 unfold Tuniq fltL
 rw [List.pairwise_map]
 refine hu.imp fun {a b} h x y hx hy=>?_
 cases a with
 | none=>cases hx
 | some a =>
  cases b with
  | none=>cases hy
  | some b =>
   simp only [Option.bind_some,keepE] at hx hy
   split at hx
   ·split at hy
    ·cases hx; cases hy
     exact h _ _ rfl rfl
    ·cases hy
   ·cases hx
theorem sortedLk_flt (e:El) {es:LMap} (hu:Tuniq es):sortedLk (fltL e es)=(sortedLk es).filter fun y=>decide (y.el=e):=by
 refine (looksOf_eq (fltL_uniq e hu) ⟨fun y=>?_,(sortedLk_ok hu).2.sublist List.filter_sublist⟩).symm
 rw [List.mem_filter,(sortedLk_ok hu).1,fltL_val]
 by_cases h:y.el=e
 ·have:(lkey y).1=e:=h
  simp [h,this]
 ·have:¬ (lkey y).1=e:=h
  simp [h,this]
def dlE (e:El) (es:LMap) (seen:List Nat):LMap:=(List.range es.length).map fun i=>if i ∈ seen then (es[i]?.join).bind (keepE e) else es[i]?.join
theorem dlE_len (e:El) (es:LMap) (seen:List Nat):(dlE e es seen).length=es.length:=by simp [dlE]
theorem dlE_get (e:El) (es:LMap) (seen:List Nat) (i:Nat) (h:i < es.length):(dlE e es seen)[i]? = some (if i ∈ seen then (es[i]?.join).bind (keepE e) else es[i]?.join):=by simp [dlE,h]
theorem dlE_nil (e:El) (es:LMap):dlE e es []=es:=by
 apply List.ext_getElem?
 intro i
 by_cases h:i < es.length
 ·rw [dlE_get e es [] i h,if_neg (by simp),List.getElem?_eq_getElem h]
  rfl
 ·rw [List.getElem?_eq_none (by rw [dlE_len]; omega),List.getElem?_eq_none (by omega)]
theorem dlE_keep {e:El} {es:LMap} {seen:List Nat} {j:Nat} {y:LKey × List UInt8} (hj:es[j]? = some (some y)) (he:y.1.1=e):dlE e es (seen++[j])=dlE e es seen:=by
 apply List.ext_getElem?
 intro i
 by_cases h:i < es.length
 ·rw [dlE_get e es _ i h,dlE_get e es _ i h]
  by_cases hij:i=j
  ·subst hij
   rw [if_pos (by simp),hj]
   simp [keepE,he]
  ·simp [hij]
 ·rw [List.getElem?_eq_none (by rw [dlE_len]; omega),List.getElem?_eq_none (by rw [dlE_len]; omega)]
theorem dlE_drop {e:El} {es:LMap} {seen:List Nat} {j:Nat} {y:LKey × List UInt8} (hj:es[j]? = some (some y)) (he:¬ y.1.1=e):dlE e es (seen++[j])=(dlE e es seen).set j none:=by
 apply List.ext_getElem?
 intro i
 rw [List.getElem?_set,dlE_len]
 by_cases h:i < es.length
 ·by_cases hij:j=i
  ·subst hij
   rw [dlE_get e es _ j h,if_pos (by simp),if_pos rfl,if_pos h,hj]
   simp [keepE,he]
  ·rw [dlE_get e es _ i h,dlE_get e es _ i h,if_neg hij]
   simp [Ne.symm hij]
 ·rw [List.getElem?_eq_none (by rw [dlE_len]; omega),List.getElem?_eq_none (by rw [dlE_len]; omega)]
  by_cases hij:j=i
  ·subst hij; simp [h]
  ·simp [hij]
theorem dlE_all {e:El} {es:LMap} {seen:List Nat} (hall:∀ i y,(dlE e es seen)[i]? = some (some y)→i ∈ seen):dlE e es seen=fltL e es:=by
 apply List.ext_getElem?
 intro i
 by_cases h:i < es.length
 ·have hg:=dlE_get e es seen i h
  rw [hg]
  unfold fltL
  rw [List.getElem?_map,List.getElem?_eq_getElem h]
  simp only [Option.join_some,Option.map_some,Option.some.injEq]
  by_cases hs:i ∈ seen
  ·rw [if_pos hs]
  ·rw [if_neg hs]
   rw [if_neg hs,List.getElem?_eq_getElem h] at hg
   simp only [Option.join_some] at hg
   cases hq:es[i] with
   | none=>rfl
   | some y=>rw [hq] at hg; exact absurd (hall i y hg) hs
 ·rw [List.getElem?_eq_none (by rw [dlE_len]; omega),List.getElem?_eq_none (by rw [fltL_len]; omega)]
theorem dlE_uniq (e:El) {es:LMap} (hu:Tuniq es) (seen:List Nat):Tuniq (dlE e es seen):=by
 unfold Tuniq at hu ⊢
 rw [List.pairwise_iff_getElem] at hu ⊢
 intro i j hi hj hij x y hx hy
 rw [dlE_len] at hi hj
 have sub:∀ k (hk:k < es.length) z,(dlE e es seen)[k]? = some (some z)→es[k]? = some (some z):=fun k hk z hz=>by
  rw [dlE_get e es seen k hk,List.getElem?_eq_getElem hk] at hz
  rw [List.getElem?_eq_getElem hk]
  simp only [Option.join_some,Option.some.injEq] at hz ⊢
  split at hz
  ·cases hq:es[k] with
   | none=>rw [hq] at hz; cases hz
   | some w =>
    rw [hq] at hz
    simp only [Option.bind_some,keepE] at hz
    split at hz
    ·exact hz
    ·cases hz
  ·exact hz
 have h1:=sub i hi x (by rw [List.getElem?_eq_getElem (by rw [dlE_len]; exact hi),hx])
 have h2:=sub j hj y (by rw [List.getElem?_eq_getElem (by rw [dlE_len]; exact hj),hy])
 rw [List.getElem?_eq_getElem hi,Option.some.injEq] at h1
 rw [List.getElem?_eq_getElem hj,Option.some.injEq] at h2
 exact hu i j hi hj hij x y h1 h2
theorem tix_at {es:LMap} (hu:Tuniq es) {j:Nat} {y:LKey × List UInt8} (h:es[j]? = some (some y)):tix y.1 es=some j:=by
 cases hq:tix y.1 es with
 | none=>exact absurd rfl (tix_none.1 hq y (List.mem_of_getElem? h))
 | some i =>
  obtain ⟨v,h1,_⟩:=tix_some hq
  obtain ⟨hi,h1⟩:=List.getElem?_eq_some_iff.1 h1
  obtain ⟨hj,h2⟩:=List.getElem?_eq_some_iff.1 h
  unfold Tuniq at hu
  rw [List.pairwise_iff_getElem] at hu
  rcases Nat.lt_trichotomy i j with hl | hl | hl
  ·exact absurd rfl (hu i j hi hj hl (y.1,v) y h1 h2)
  ·rw [hl]
  ·exact absurd rfl (hu j i hj hi hl y (y.1,v) h2 h1)
theorem stages11_pc (e:El) (k:LKey) (v:List UInt8):Pc Tryz.prog 82 [lkA k,.str v,.pin 2 [elA e] 0 0] (· = .bool (!decide (k.1=e))):=by
 obtain ⟨⟨k1,k2⟩,k3⟩:=k
 obtain ⟨e1,e2⟩:=e
 have hd:(!decide ((⟨k1,k2⟩:El)=⟨e1,e2⟩))=!(k1 == e1 && k2 == e2):=by
  congr 1
  rw [Bool.eq_iff_iff]
  simp
 simp only [lkA,elA]
 rw [hd]
 refine pc_intro (ct_intro Tryz.func82 rfl Tryz.ntmps82 hB82 (by simp) fun h ρ w=>goB (N:=10) Tryz.ntmps82 300 ?_)
 simp only [go_sem]
 repeat refine And.intro (by first | omega | kernel_rfl | rfl | (simp; done) | (simp; omega)) ?_
 exact aret [5] rfl ⟨rfl,rfl⟩
set_option maxHeartbeats 4000000 in
theorem delE_ct (e:El) (es:LMap) (hu:Tuniq es) (T:List Blk) (hT:T.all (lowB T.length)=true) :
  Ct Tryz.prog 81 [.mp T.length,.fn (.func 82) [.pin 2 [elA e] 0 0]] (T++[.mp (lkM es)]) (fun r s=>r=.tup []∧∃ seen,s=T++[.mp (lkM (fltL e es)),.it T.length es.length seen]):=by
 have hml:∀ es:LMap,(lkM es).length=es.length:=fun es=>by simp [lkM]
 refine ct_intro Tryz.func81 rfl Tryz.ntmps81 hB81 (by simp) fun h ρ w=>goB (N:=19) Tryz.ntmps81 300 ?_
 simp only [go_sem,gt_at0,gt_at,hml,List.append_assoc,List.cons_append,List.nil_append,List.length_append,List.length_cons,List.length_nil]
 refine aloop (ι:=List Nat) (fun y=>es.length - y.length)
  (fun y=>[(7,.mp (T.length+1)),(1,.fn (.func 82) [.pin 2 [elA e] 0 0]),(0,.mp T.length)])
  (fun y=>T++[.mp (lkM (dlE e es y)),.it T.length es.length y]) (fun y=>y.Nodup∧∀ i ∈ y,i < es.length) [] ⟨.nil,by simp⟩ ?_ ?_
 ·rw [dlE_nil]
  refine Shift.weakS ?_ rfl
  simp only [wk,go_sem]
 rintro seen ⟨n1,n2⟩ J hJ
 try simp only at n1 n2 hJ ⊢
 have hpg:=pigeonN _ _ n1 n2
 refine goB (N:=19) Tryz.ntmps81 3 ?_
 simp only [go_sem]
 refine anext (id:=T.length+1) (mid:=T.length) (es:=lkM (dlE e es seen)) rfl rfl (by rw [gt_at]; rfl) (by rw [gt_at0]; rfl) (by rw [hml,dlE_len]) ?_ ?_
 ·intro hall
  have hfin:=dlE_all (e:=e) (es:=es) (seen:=seen) fun i y hy=>by
   refine hall i (lkA y.1,.str y.2) ?_ rfl
   unfold lkM
   rw [List.getElem?_map,hy]
   rfl
  rw [hfin]
  refine goB (N:=19) Tryz.ntmps81 300 ?_
  simp only [go_sem]
  exact aret [] rfl ⟨rfl,seen,rfl⟩
 ·intro j z hj hz hlive
  obtain ⟨y,hy,rfl⟩:=lkM_at hz hlive
  have hjl:j < es.length:=by
   have:=(List.getElem?_eq_some_iff.1 hy).1
   rw [dlE_len] at this
   exact this
  have hyo:es[j]? = some (some y):=by
   have hg:=dlE_get e es seen j hjl
   rw [hy,if_neg hj,List.getElem?_eq_getElem hjl] at hg
   rw [List.getElem?_eq_getElem hjl]
   simpa using hg.symm
  have hlast:(lkM (dlE e es seen)).getD ((seen++[j]).getLastD 0) (.any,.any)=(lkA y.1,.str y.2):=by
   rw [show (seen++[j]).getLastD 0=j by simp,List.getD_eq_getElem?_getD,hz]; rfl
  have hnd:(seen++[j]).Nodup:=by
   rw [List.nodup_append]
   exact ⟨n1,by simp,fun a ha b hb e=>hj (by rw [List.mem_singleton.1 hb] at e; rw [← e]; exact ha)⟩
  have hlt2:∀ x ∈ seen++[j],x < es.length:=fun x hx=>by
   rcases List.mem_append.1 hx with hx | hx
   ·exact n2 x hx
   ·rw [List.mem_singleton.1 hx]; exact hjl
  have hpg2:=pigeonN _ _ hnd hlt2
  rw [List.length_append,List.length_singleton] at hpg2
  have hfin:=hJ (seen++[j]) ⟨hnd,hlt2⟩ (by simp; omega)
  have hti:=tix_at (dlE_uniq e hu seen) hy
  have hfind:=lkM_find y.1 (dlE e es seen) 0
  have hdel:=lkM_del (dlE e es seen) y.1
  rw [hti] at hfind hdel
  simp only [Nat.zero_add] at hfind
  have hcl:=stages11_pc e y.1 y.2
  have hlow:∀ es':LMap,[Blk.mp (lkM es'),.it T.length es.length (seen++[j])].all (lowB (T.length+[Blk.mp (lkM es'),.it T.length es.length (seen++[j])].length))=true:=fun es'=>by
   simp only [List.all_cons,List.all_nil,low_lkM,Bool.true_and,Bool.and_true,List.length_cons,List.length_nil]
   simp [lowB]
  by_cases he:y.1.1=e
  ·rw [dlE_keep hyo he] at hfin
   rw [show (!decide (y.1.1=e))=false by simp [he]] at hcl
   obtain ⟨⟨⟨kk,nn⟩,ff⟩,vv⟩:=y
   simp only [lkA] at hlast hcl ⊢
   refine goB (N:=19) Tryz.ntmps81 300 ?_
   simp only [go_sem,hlast,gt_at,gt_at0,st_at,st_at0,List.append_assoc,List.cons_append,List.nil_append,List.length_append,List.length_cons,List.length_nil]
   repeat refine And.intro (by first | omega | (rw [hml,dlE_len]) | rfl | kernel_rfl | (simp; done) | (simp; omega)) ?_
   refine pcall1 (hcl) rfl (N:=19) Tryz.ntmps81 rfl (goB (N:=19) Tryz.ntmps81 300 ?_)
   simp only [go_sem,gt_at,gt_at0,st_at,st_at0,List.append_assoc,List.cons_append,List.nil_append,List.length_append,List.length_cons,List.length_nil]
   repeat refine And.intro (by first | omega | (rw [hml,dlE_len]) | rfl | kernel_rfl | (simp; done) | (simp; omega)) ?_
   refine ainv hfin (shift_lowF T [_,_] [_] rfl (by simp) hT (hlow _) ?_)
   simp only [wkl,lowV,lowC,Av.get,go_sem]
   repeat (first | rfl | (simp; done) | (simp; omega) | refine And.intro (by first | rfl | (simp; done) | (simp; omega)) ?_)
  ·rw [dlE_drop hyo he] at hfin
   have hset:lkM ((dlE e es seen).set j none)=(lkM (dlE e es seen)).set j tomb:=by unfold lkM; rw [List.map_set]; rfl
   rw [show (!decide (y.1.1=e))=true by simp [he]] at hcl
   obtain ⟨⟨⟨kk,nn⟩,ff⟩,vv⟩:=y
   simp only [lkA] at hlast hcl hfind ⊢
   refine goB (N:=19) Tryz.ntmps81 300 ?_
   simp only [go_sem,hlast,gt_at,gt_at0,st_at,st_at0,List.append_assoc,List.cons_append,List.nil_append,List.length_append,List.length_cons,List.length_nil]
   repeat refine And.intro (by first | omega | (rw [hml,dlE_len]) | rfl | kernel_rfl | (simp; done) | (simp; omega)) ?_
   refine pcall1 (hcl) rfl (N:=19) Tryz.ntmps81 rfl (goB (N:=19) Tryz.ntmps81 300 ?_)
   simp only [go_sem,hfind,← hset,gt_at,gt_at0,st_at,st_at0,List.append_assoc,List.cons_append,List.nil_append,List.length_append,List.length_cons,List.length_nil]
   repeat refine And.intro (by first | omega | (rw [hml,dlE_len]) | rfl | kernel_rfl | (simp; done) | (simp; omega)) ?_
   refine ainv hfin (shift_lowF T [_,_] [_] rfl (by simp) hT (hlow _) ?_)
   simp only [wkl,lowV,lowC,Av.get,go_sem]
   repeat (first | rfl | (simp; done) | (simp; omega) | refine And.intro (by first | rfl | (simp; done) | (simp; omega)) ?_)
structure Stg where
 no:List UInt8
 looks:List Lk
def stgA (s:Stg):AV:=.agg [.str s.no,.fz 4 (s.looks.map lookA)]
theorem stg_frz:∀ l:List Stg,(flat (l.map stgA)).all Av.frozen=true
 | []=>rfl
 | a :: l=>by simp only [List.map_cons,flat,stgA,cellsOf,List.cons_append,List.nil_append,List.all_cons,Av.frozen,stg_frz l,Bool.and_self]
theorem low_stg (n:Nat) (l:List Stg):lowB n (.arr 2 (l.map stgA))=true:=low_all (stg_frz l)
def stg1 (st:List Stg × List Lk) (no:List UInt8) (own:List Lk):List Stg × List Lk:=(if own=st.2 then st.1 else st.1++[⟨no,own⟩],own)
theorem mclone_ct {s:List Blk} {id:Nat} {es:List (AV × AV)} (hs:s[id]? = some (.mp es)):Ct Tryz.prog 80 [.mp id] s (fun r s'=>r=.mp s.length∧s'=s++[.mp es]) :=
 mapsClone_ct Tryz.mclone hB80 hs
set_option maxHeartbeats 4000000 in
theorem stages1_ct (x:Sr) (e:El) (b0 b1 b2 b3 B:Blk) (hlow:∀ b ∈ [b0,b1,b2,b3,B],lowB 9 b=true) (st:List Stg × List Lk) (hst:st.1.length ≤ 10∧st.2.length ≤ 12) (i:Nat) (hi:i < x.scenes.length) (hxl:x.scenes.length ≤ 5) (es:LMap) (hu:Tuniq es) (hl:es.length ≤ 12) :
  Ct Tryz.prog 79 [.int .i64 i,.mp 8,.pin 2 [elA e] 0 0,.ptr 5 1 0 0,.ptr 4 1 0 0,.pin 2 [srA x] 0 0] [b0,b1,b2,b3,.arr 1 [.sl 6 0 st.1.length st.1.length],.arr 1 [.fz 4 (st.2.map lookA)],.arr 2 (st.1.map stgA),B,.mp (lkM es)]
   (fun r s=>∃ st',st'=stg1 st x.scenes[i].no (sortedLk (fltL e es))∧r=.bool true∧s=[b0,b1,b2,b3,.arr 1 [.sl 6 0 st'.1.length st'.1.length],.arr 1 [.fz 4 (st'.2.map lookA)],.arr 2 (st'.1.map stgA),B,.mp (lkM es)]):=by
 simp only [List.mem_cons,List.not_mem_nil,or_false,forall_eq_or_imp,forall_eq] at hlow
 obtain ⟨l0,l1,l2,l3,l4⟩:=hlow
 obtain ⟨hst1,hst2⟩:=hst
 have hget:=scA_get x.scenes i hi
 have hT:[b0,b1,b2,b3,.arr 1 [.sl 6 0 st.1.length st.1.length],.arr 1 [.fz 4 (st.2.map lookA)],.arr 2 (st.1.map stgA),B,.mp (lkM es)].all (lowB 9)=true:=by
  simp only [List.all_cons,List.all_nil,l0,l1,l2,l3,l4,low_stg,low_lkM,Bool.and_true,Bool.true_and]
  rfl
 have hfl:(fltL e es).length ≤ 12:=by rw [fltL_len]; exact hl
 have hfu:=fltL_uniq e hu
 have hol:=sortedLk_len hfu
 have hc1:=mclone_ct (s:=[b0,b1,b2,b3,.arr 1 [.sl 6 0 st.1.length st.1.length],.arr 1 [.fz 4 (st.2.map lookA)],.arr 2 (st.1.map stgA),B,.mp (lkM es)]) (id:=8) rfl
 have hc2:=delE_ct e es hu [b0,b1,b2,b3,.arr 1 [.sl 6 0 st.1.length st.1.length],.arr 1 [.fz 4 (st.2.map lookA)],.arr 2 (st.1.map stgA),B,.mp (lkM es)] hT
 have hc3:=fun seen=>sorted_ct (fltL e es) hfu hfl [b0,b1,b2,b3,.arr 1 [.sl 6 0 st.1.length st.1.length],.arr 1 [.fz 4 (st.2.map lookA)],.arr 2 (st.1.map stgA),B,.mp (lkM es),.mp (lkM (fltL e es)),.it 9 es.length seen] 9 rfl (by
  simp only [List.all_cons,List.all_nil,List.length_cons,List.length_nil,Nat.zero_add,Nat.reduceAdd,low_mono (show 9 ≤ 11 by omega) l0,low_mono (show 9 ≤ 11 by omega) l1,low_mono (show 9 ≤ 11 by omega) l2,low_mono (show 9 ≤ 11 by omega) l3,low_mono (show 9 ≤ 11 by omega) l4,low_stg,low_lkM,Bool.and_true,Bool.true_and]
  rfl)
 have heq:=eqLk_pc (sortedLk (fltL e es)) st.2 (by omega) (by omega)
 obtain ⟨sts,last⟩:=st
 simp only at *
 simp only [srA] at hc1 hc2 hc3 ⊢
 refine ct_intro Tryz.func79 rfl Tryz.ntmps79 hB79 (by simp) fun h ρ w=>goB (N:=34) Tryz.ntmps79 300 ?_
 simp only [go_sem]
 refine acall (hc1) (N:=34) Tryz.ntmps79 rfl ?_
 rintro _ _ ⟨rfl,rfl⟩
 refine goB (N:=34) Tryz.ntmps79 300 ?_
 simp only [go_sem]
 refine acall (hc2) (N:=34) Tryz.ntmps79 rfl ?_
 rintro _ _ ⟨rfl,seen,rfl⟩
 simp only [List.cons_append,List.nil_append,List.length_cons,List.length_nil,Nat.zero_add,Nat.reduceAdd]
 refine goB (N:=34) Tryz.ntmps79 300 ?_
 simp only [go_sem]
 refine acall (hc3 seen) (N:=34) Tryz.ntmps79 rfl ?_
 rintro _ _ ⟨own,sn2,ho,rfl,rfl⟩
 have hown:=looksOf_eq hfu ho
 rw [← hown] at heq hol ⊢
 simp only [List.cons_append,List.nil_append,List.length_cons,List.length_nil,Nat.zero_add,Nat.reduceAdd]
 refine AWp.shift (Shift.freeze 17 (id:=12) (l:=own.map lookA) rfl rfl (by simp) (Nat.le_refl _) (lookA_frz _)) ?_
 rw [List.drop_zero,List.take_of_length_le (by simp)]
 clear hc1 hc2 hc3 hT
 refine goB (N:=34) Tryz.ntmps79 300 ?_
 simp only [go_sem]
 repeat refine And.intro (by first | omega | rfl | kernel_rfl | (simp; done) | (simp; omega)) ?_
 refine pcall1 (heq) rfl (N:=34) Tryz.ntmps79 rfl (goB (N:=34) Tryz.ntmps79 300 ?_)
 by_cases hq:own=last
 ·have d:=decide_eq_true hq
  have hs1:stg1 (sts,last) x.scenes[i].no own=(sts,own):=by unfold stg1; rw [if_pos hq]
  rw [hs1]
  simp only [go_sem,d]
  repeat refine And.intro (by first | omega | rfl | kernel_rfl | exact .inl rfl | exact .inl trivial | (simp; done) | (simp; omega)) ?_
  refine ARet.shift (Shift.trans (Shift.low 9 (by simp) (by simp) (e':=[(8,.bool true)]) ?_ ?_) (Shift.weakS (e':=[(8,.bool true)]) (s':=[b0,b1,b2,b3,.arr 1 [.sl 6 0 sts.length sts.length],.arr 1 [.fz 4 (own.map lookA)],.arr 2 (sts.map stgA),B,.mp (lkM es)]) ⟨rfl,trivial⟩ rfl)) (aret [8] rfl ⟨_,rfl,rfl,?_⟩)
  ·simp only [List.take_succ_cons,List.take_zero,List.all_cons,List.all_nil,l0,l1,l2,l3,l4,low_stg,low_lkM,Bool.and_true,Bool.true_and]
   rfl
  ·exact ⟨⟨rfl,rfl⟩,trivial⟩
  ·rfl
 ·have d:=decide_eq_false hq
  have hs1:stg1 (sts,last) x.scenes[i].no own=(sts++[⟨x.scenes[i].no,own⟩],own):=by unfold stg1; rw [if_neg hq]
  rw [hs1]
  generalize x.scenes[i]=y at *
  have hlp:lowB 9 (.arr 2 (sts.map stgA++[.agg [.str y.no,.fz 4 (own.map lookA)]]))=true:=by
   have:=low_stg 9 (sts++[⟨y.no,own⟩])
   simpa [stgA] using this
  simp only [go_sem,d]
  repeat refine And.intro (by first | omega | rfl | kernel_rfl | exact .inl rfl | exact .inl trivial | (simp; done) | (simp; omega)) ?_
  refine adrawA (6) [] mixed (by decide) (N:=34) Tryz.ntmps79 (by decide) 100 ?_
  simp only [go_sem,hget,List.length_map,cka,isApp,appOk]
  repeat refine And.intro (by first | omega | rfl | kernel_rfl | exact .inl rfl | exact .inl trivial | (simp; done) | (simp; omega)) ?_
  refine goB (N:=34) Tryz.ntmps79 300 ?_
  simp only [go_sem]
  repeat refine And.intro (by first | omega | rfl | kernel_rfl | exact .inl rfl | exact .inl trivial | (simp; done) | (simp; omega)) ?_
  refine ARet.shift (Shift.trans (Shift.low 9 (by simp) (by simp) (e':=[(8,.bool true)]) ?_ ?_) (Shift.weakS (e':=[(8,.bool true)]) (s':=[b0,b1,b2,b3,.arr 1 [.sl 6 0 (sts.length+1) (sts.length+1)],.arr 1 [.fz 4 (own.map lookA)],.arr 2 (sts.map stgA++[.agg [.str y.no,.fz 4 (own.map lookA)]]),B,.mp (lkM es)]) ⟨rfl,trivial⟩ rfl)) (aret [8] rfl ⟨_,rfl,rfl,?_⟩)
  ·simp only [List.take_succ_cons,List.take_zero,List.all_cons,List.all_nil,l0,l1,l2,l3,l4,low_stg,hlp,low_lkM,Bool.and_true,Bool.true_and]
   rfl
  ·exact ⟨⟨rfl,rfl⟩,trivial⟩
  ·simp [stgA]
def stgTo (x:Sr) (js:List Jm) (fs:List Fa) (e:El):Nat→List Stg × List Lk
 | 0=>([],[])
 | j+1=>stg1 (stgTo x js fs e j) (noAt x ((ordL x js).getD j 0)) (sortedLk (fltL e (esAt (kfN x) fs (ordL x js) (j+1))))
theorem stgTo_len (x:Sr) (js:List Jm) (fs:List Fa) (e:El) (hn:(ordL x js).Nodup) (hf:fs.length ≤ 8):∀ j,(stgTo x js fs e j).1.length ≤ j∧(stgTo x js fs e j).2.length ≤ 8
 | 0=>by simp [stgTo]
 | j+1=>by
  obtain ⟨h1,h2⟩:=stgTo_len x js fs e hn hf j
  have h3:=sortedLk_len (fltL_uniq e (esAt_uniq (kfN x) fs (ordL x js) (j+1)))
  have h4:=esAt_len (kfN x) fs (ordL x js) hn (j+1)
  rw [fltL_len] at h3
  rw [stgTo]
  unfold stg1
  refine ⟨?_,by simp only; omega⟩
  simp only
  split
  ·omega
  ·simp; omega
def stagesL (x:Sr) (js:List Jm) (fs:List Fa) (e:El):List Stg:=(stgTo x js fs e (ordL x js).length).1
set_option maxHeartbeats 8000000 in
theorem stages_pch {S:Std} (hS:LibOk S) (x:Sr) (hx:StoryOk x) (js:List Jm) (hj:JumpsOk x js) (fs:List Fa) (hf:FactsOk x fs) (e:El) (he:PcH Tryz.prog S 78 [elA e] (· = .int .i64 0)) :
  PcH Tryz.prog S 29 [srA x,.fz 4 (js.map jmA),.fz 5 (fs.map faA),elA e] (· = .tup [.fz 2 ((stagesL x js fs e).map stgA),.int .i64 0]):=by
 have hlen:=hx.len
 have hfl:=hf.len
 have hperm:=ordL_perm hx hj
 have hnd:(ordL x js).Nodup:=hperm.symm.nodup List.nodup_range
 have hol:(ordL x js).length=x.scenes.length:=by rw [hperm.length_eq,List.length_range]
 have h1:=follow_cth hS x hx js hj fs hf
 simp only [srA,elA] at h1 he ⊢
 refine pch_intro (cth_intro Tryz.func29 rfl Tryz.ntmps29 hB29 (by simp) fun h ρ w hg=>goB (N:=35) Tryz.ntmps29 300 ?_)
 simp only [go_sem]
 repeat refine And.intro (by first | omega | rfl | kernel_rfl | (simp; done) | (simp; omega)) ?_
 refine acallH hg (h1) (N:=35) Tryz.ntmps29 rfl ?_
 rintro _ _ ⟨gs,TG,rfl,rfl,hG⟩
 simp only [cont0]
 refine goB (N:=35) Tryz.ntmps29 300 ?_
 simp only [go_sem]
 repeat refine And.intro (by first | omega | rfl | kernel_rfl | (simp; done) | (simp; omega)) ?_
 refine pcallH1 hg (he) rfl (N:=35) Tryz.ntmps29 rfl (goB (N:=35) Tryz.ntmps29 26 ?_)
 simp only [go_sem]
 refine AWp.shift (Shift.cells 4 2 [.sl 6 0 0 0] rfl rfl (by simp [cellsOf]) ⟨.sl,trivial⟩) ?_
 simp only [List.map_cons,List.map_nil,List.set_cons_zero,List.set_cons_succ,List.cons_append,List.nil_append]
 refine goB (N:=35) Tryz.ntmps29 300 ?_
 simp only [go_sem]
 repeat refine And.intro (by first | omega | rfl | kernel_rfl | (simp; done) | (simp; omega)) ?_
 have hE:=each_cth (S:=S) (kfN x) fs (by omega) (ordL x js) (by omega) gs TG hG 1 2 7 (by omega) (by omega) 79 [.pin 2 [elA e] 0 0,.ptr 5 1 0 0,.ptr 4 1 0 0,.pin 2 [srA x] 0 0] rfl
  (fun j T R=>T=[.arr 3 [.agg [.fz 1 ((ordL x js).map inA),.mp 1,.mp 2]],.mp (scMF 0 x.scenes),.mp (gfF gs),.arr 3 [.agg [.fz 1 ((ordL x js).map inA),.mp 1,.mp 2]],.arr 1 [.sl 6 0 (stgTo x js fs e j).1.length (stgTo x js fs e j).1.length],.arr 1 [.fz 4 ((stgTo x js fs e j).2.map lookA)],.arr 2 ((stgTo x js fs e j).1.map stgA)]∧R=[]∧j ≤ (ordL x js).length)
  (fun T R=>False)
  (by
   rintro j _ _ ⟨rfl,rfl,hjl⟩
   refine ⟨rfl,rfl,?_,rfl⟩
   have hfz:lowB 7 (.arr 2 ((stgTo x js fs e j).1.map stgA))=true:=low_all (stg_frz _)
   simp only [List.all_cons,List.all_nil,low_scM,low_gfF,hfz,Bool.and_true,Bool.true_and]
   rfl)
  (by
   rintro j hjl _ _ ⟨rfl,rfl,_⟩
   obtain ⟨l1,l2⟩:=stgTo_len x js fs e hnd (by omega) j
   have hi:(ordL x js)[j] < x.scenes.length:=List.mem_range.1 (hperm.mem_iff.1 (List.getElem_mem hjl))
   have hl1:=stages1_ct x e (.arr 3 [.agg [.fz 1 ((ordL x js).map inA),.mp 1,.mp 2]]) (.mp (scMF 0 x.scenes)) (.mp (gfF gs)) (.arr 3 [.agg [.fz 1 ((ordL x js).map inA),.mp 1,.mp 2]]) (B0 (ordL x js) 1 2) (by
    simp only [List.mem_cons,List.not_mem_nil,or_false,forall_eq_or_imp,forall_eq,low_scM,low_gfF,true_and]
    exact ⟨rfl,rfl,rfl⟩) (stgTo x js fs e j) ⟨by omega,by omega⟩ ((ordL x js)[j]) hi hlen (esAt (kfN x) fs (ordL x js) (j+1)) (esAt_uniq _ _ _ _) (Nat.le_trans (esAt_len _ _ _ hnd _) (by omega))
   refine CtH.imp (hl1.toH (g:=S)) ?_
   rintro r s ⟨st',hst,rfl,rfl⟩
   have hst2:st'=stgTo x js fs e (j+1):=by
    rw [hst,stgTo,List.getD_eq_getElem?_getD,List.getElem?_eq_getElem hjl,Option.getD_some,noAt_eq hi]
   subst hst2
   exact ⟨[.arr 3 [.agg [.fz 1 ((ordL x js).map inA),.mp 1,.mp 2]],.mp (scMF 0 x.scenes),.mp (gfF gs),.arr 3 [.agg [.fz 1 ((ordL x js).map inA),.mp 1,.mp 2]],.arr 1 [.sl 6 0 (stgTo x js fs e (j+1)).1.length (stgTo x js fs e (j+1)).1.length],.arr 1 [.fz 4 ((stgTo x js fs e (j+1)).2.map lookA)],.arr 2 ((stgTo x js fs e (j+1)).1.map stgA)],[],rfl,.inl ⟨rfl,rfl,rfl,hjl⟩⟩)
  _ ⟨rfl,rfl,by omega⟩
 refine acallH hg (hE) (N:=35) Tryz.ntmps29 rfl ?_
 rintro _ _ ⟨rfl,T,R,es,rfl,(⟨rfl,rfl,_⟩ | hT)⟩
 rotate_left
 ·exact hT.elim
 obtain ⟨l1,l2⟩:=stgTo_len x js fs e hnd (by omega) (ordL x js).length
 have hcf:=stg_frz (stgTo x js fs e (ordL x js).length).1
 unfold stagesL
 generalize stgTo x js fs e (ordL x js).length=Z at *
 simp only [List.cons_append,List.nil_append]
 refine goB (N:=35) Tryz.ntmps29 300 ?_
 simp only [go_sem]
 refine ARet.shift (Shift.freeze 8 (id:=6) (l:=Z.1.map stgA) rfl rfl (by simp) (Nat.le_refl _) hcf) (aret [8,9] rfl ⟨?_,rfl⟩)
 simp only [resV,Av.get,Av.put,List.map_cons,List.map_nil,beq_self_eq_true,cond_true,List.drop_zero,Nat.reduceBEq,cond_false]
 rw [List.take_of_length_le (by simp)]
theorem getD_endP (s:List Blk) (b d:Blk):(s++[b]).getD s.length d=b:=by simp
theorem set_endP (s:List Blk) (b b':Blk):(s++[b]).set s.length b'=s++[b']:=by simp
end Go.Proofs.YtnfkjpihaficbaaGreatDoor
