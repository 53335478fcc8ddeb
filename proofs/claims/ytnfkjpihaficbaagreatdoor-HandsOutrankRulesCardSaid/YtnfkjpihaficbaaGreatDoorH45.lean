/- maps.Values at needs, as an iterator. Own work of this seat. -/
import Derived.Test.YtnfkjpihaficbaaGreatDoorH44
set_option maxRecDepth 100000
set_option linter.unusedSimpArgs false
set_option linter.unusedVariables false
namespace Go.Proofs.YtnfkjpihaficbaaGreatDoor
open Go Go.Av Go.RowKit
def vAt (es:NMap) (i:Nat):AV:=((ndM es).getD i (.any,.any)).2
def itU (mid n:Nat):Option (List Nat)→List Blk
 | none=>[]
 | some seen=>[.it mid n seen]
def LiveAll (es:NMap) (seen:List Nat):Prop:=seen.Nodup∧(∀ i ∈ seen,∃ y,es[i]? = some (some y))∧∀ i y,es[i]? = some (some y)→i ∈ seen
theorem ndM_at {es:NMap} {j:Nat} {z:AV × AV} (hz:(ndM es)[j]? = some z) (hl:liveK z.1=true):∃ y,es[j]? = some (some y)∧z=(elA y.1,ndV y.1 y.2):=by
 unfold ndM at hz
 rw [List.getElem?_map] at hz
 cases hq:es[j]? with
 | none=>rw [hq] at hz; cases hz
 | some o =>
  rw [hq] at hz
  cases o with
  | none =>
   cases hz
   cases hl
  | some y=>exact ⟨y,rfl,(Option.some.inj hz).symm⟩
def VOk (es:NMap) (j:List AV) (x:AV):Prop:=∃ (seen:List Nat) (i:Nat) (y:El × Int × Bool),(∀ k ∈ seen,∃ v,es[k]? = some (some v))∧j=seen.map (vAt es)∧seen.length < es.length∧es[i]? = some (some y)∧x=ndV y.1 y.2
set_option maxHeartbeats 2000000 in
theorem values_ita {St:Std} (T:List AV→List Blk) (m bx mid:Nat) (es:NMap) (hm:∀ j,(T j).length=m) (hbx:∀ j,(T j)[bx]? = some (.arr 1 [.mp mid])) (hmid:∀ j,(T j)[mid]? = some (.mp (ndM es))) (hT:∀ y:List Nat,(∀ i ∈ y,∃ v,es[i]? = some (some v))→(T (y.map (vAt es))).all (lowB m)=true) :
  ItA Tryz.prog St 110 [.ptr bx 1 0 0] (VOk es) (fun j=>∃ seen,LiveAll es seen∧j=seen.map (vAt es)) (fun j q=>T j++itU mid es.length q) none:=by
 refine ita_intro Tryz.func110 rfl Tryz.ntmps110 hB110 rfl (by simp) fun l c out hP hfn hsto hg hY hfin=>?_
 obtain ⟨P,fn,h,ρ,sto,w,post,x,hx⟩:=c
 simp only at hP hfn hsto hg hY
 subst hP; subst hfn; subst hsto
 have b1:=fun j=>gt_old (hbx j)
 have b2:=fun j=>gt_old (hmid j)
 have b10:=fun j=>gd_of (hbx j)
 have b20:=fun j=>gd_of (hmid j)
 have hml:(ndM es).length=es.length:=by simp [ndM]
 simp only [itU,List.append_nil]
 refine goR (N:=15) Tryz.ntmps110 300 ?_
 simp only [go_sem,runR,contR,brR,step1R,resNR,stopNR,exitNR,dxk,dxkc,dbrk,↓brR_true,↓brR_false,↓dbrk_true,↓dbrk_false,b1,b2,b10,b20,hml,hm]
 repeat refine And.intro (by first | omega | rfl | kernel_rfl | exact .inl rfl | exact .inl trivial | (simp; done) | (simp; omega)) ?_
 have itm:∀ j (b:Blk) (U:List Blk),(T j++b :: U).getD m .dead=b:=fun j b U=>by
  have:=gt_at0 (T:=T j) (U:=b :: U) (d:=Blk.dead)
  rw [hm] at this
  exact this
 refine aloopR (ι:=List Nat) (fun y=>es.length - y.length) (fun y=>[(6,.mp m),(0,.raw (.func (.yield l) #[] #[])),(1,.ptr bx 1 0 0)]) (fun y=>T (y.map (vAt es))++[.it mid es.length y])
  (fun y=>y.Nodup∧∀ i ∈ y,∃ v,es[i]? = some (some v)) [] ⟨.nil,by simp⟩ ?_ ?_
 ·refine Shift.weakS ?_ rfl
  simp only [wk,go_sem]
 rintro seen ⟨n1,n2⟩ J hJ
 refine goR (N:=15) Tryz.ntmps110 3 ?_
 simp only [go_sem,runR,contR,brR,step1R,resNR,stopNR,exitNR,dxk,dxkc,dbrk,↓brR_true,↓brR_false,↓dbrk_true,↓dbrk_false]
 refine anextR (id:=m) (mid:=mid) (es:=ndM es) rfl rfl (itm _ _ _) (b2 _ _) hml ?_ ?_
 ·intro hall
  have hfa:LiveAll es seen:=⟨n1,n2,fun i y hy=>by
   refine hall i (elA y.1,ndV y.1 y.2) ?_ rfl
   unfold ndM
   rw [List.getElem?_map,hy]
   rfl⟩
  refine goR (N:=15) Tryz.ntmps110 300 ?_
  simp only [go_sem,runR,contR,brR,step1R,resNR,stopNR,exitNR,dxk,dxkc,dbrk,↓brR_true,↓brR_false,↓dbrk_true,↓dbrk_false]
  have hf:=hfin .normal (seen.map (vAt es)) (some seen) ⟨seen,hfa,rfl⟩ (.inl rfl)
  simp only [itU,List.append_nil] at hf
  exact AOut.shift (e':=[]) (Shift.weak trivial) hf
 ·intro j z hj hz hlive
  obtain ⟨y,hy,rfl⟩:=ndM_at hz hlive
  have its:∀ jj (b b':Blk),(T jj++[b]).set m b'=T jj++[b']:=fun jj b b'=>by
   have:=st_at0 (T:=T jj) (U:=[b]) (b:=b')
   rw [hm] at this
   exact this
  have hlast:(ndM es).getD ((seen++[j]).getLastD 0) (.any,.any)=(elA y.1,ndV y.1 y.2):=by
   rw [show (seen++[j]).getLastD 0=j by simp,List.getD_eq_getElem?_getD,hz]; rfl
  have hv:vAt es j=ndV y.1 y.2:=by
   unfold vAt
   rw [List.getD_eq_getElem?_getD,hz]; rfl
  have itm1:∀ jj (U:List Blk) (d:Blk),(T jj++U).getD (m+1) d=U.getD 1 d:=fun jj U d=>by
   have:=gt_at (T:=T jj) (U:=U) (c:=1) (d:=d)
   rw [hm] at this
   exact this
  have its1:∀ jj (U:List Blk) (b:Blk),(T jj++U).set (m+1) b=T jj++U.set 1 b:=fun jj U b=>by
   have:=st_at (T:=T jj) (U:=U) (c:=1) (b:=b)
   rw [hm] at this
   exact this
  have hlt:seen.length < es.length:=by
   have:=pigeonN (es.length) (seen++[j]) (by
    rw [List.nodup_append]
    exact ⟨n1,by simp,fun a ha b hb e=>hj (by rw [List.mem_singleton.1 hb] at e; rw [← e]; exact ha)⟩) (fun i hi=>by
    rcases List.mem_append.1 hi with hi | hi
    ·obtain ⟨v,hv⟩:=n2 i hi
     exact (List.getElem?_eq_some_iff.1 hv).1
    ·rw [List.mem_singleton.1 hi]; exact (List.getElem?_eq_some_iff.1 hy).1)
   simp at this
   omega
  rw [its]
  obtain ⟨⟨k1,k2⟩,v1,v2⟩:=y
  simp only [ndV,ndA,elA] at hlast hv ⊢
  refine goR (N:=15) Tryz.ntmps110 300 ?_
  simp only [go_sem,runR,contR,brR,step1R,resNR,stopNR,exitNR,dxk,dxkc,dbrk,↓brR_true,↓brR_false,↓dbrk_true,↓dbrk_false,hlast,itm,itm1,its1,b2,b20,hm,List.append_assoc,List.cons_append,List.nil_append,List.set_cons_succ,List.set_cons_zero,List.getD_cons_succ,List.getD_cons_zero,List.length_append,List.length_cons,List.length_nil]
  repeat refine And.intro (by first | omega | rfl | kernel_rfl | exact .inl rfl | exact .inl trivial | (simp; done) | (simp; omega)) ?_
  have hlu:[Blk.it mid es.length (seen++[j])].all (lowB ((T (seen.map (vAt es))).length+[Blk.it mid es.length (seen++[j])].length))=true:=by
   have hmi:=(List.getElem?_eq_some_iff.1 (hmid (seen.map (vAt es)))).1
   simp only [List.all_cons,List.all_nil,Bool.and_true,List.length_cons,List.length_nil,lowB,decide_eq_true_eq]
   omega
  refine AWpR.shift (shift_lowE (T (seen.map (vAt es))) [_] [_] rfl (by rw [hm]; exact Nat.le_of_eq (hm _).symm) (by rw [hm]; exact hT _ n2) hlu (e':=[(12,.agg [.int .i64 k1,.str k2,.int .i64 v1,.bool v2]),(11,.raw (.func (.yield l) #[] #[])),(6,.mp m),(0,.raw (.func (.yield l) #[] #[])),(1,.ptr bx 1 0 0)]) ?_) ?_
  ·have hbi:=(List.getElem?_eq_some_iff.1 (hbx (seen.map (vAt es)))).1
   rw [hm] at hbi
   simp only [hm,wkl,lowV,lowC,Av.get,go_sem,List.length_cons,List.length_nil]
   repeat (first | rfl | (simp; done) | (simp; omega) | refine And.intro (by first | rfl | (simp; done) | (simp; omega)) ?_)
  have hmap:(seen++[j]).map (vAt es)=seen.map (vAt es)++[.agg [.int .i64 k1,.str k2,.int .i64 v1,.bool v2]]:=by
   rw [List.map_append,List.map_cons,List.map_nil,hv]
  have hjl:=(List.getElem?_eq_some_iff.1 hy).1
  have hfn:=hJ (seen++[j]) ⟨by
   rw [List.nodup_append]
   exact ⟨n1,by simp,fun a ha b hb e=>hj (by rw [List.mem_singleton.1 hb] at e; rw [← e]; exact ha)⟩,fun i hi=>by
   rcases List.mem_append.1 hi with hi | hi
   ·exact n2 i hi
   ·rw [List.mem_singleton.1 hi]; exact ⟨_,hy⟩⟩ (by
   have:=pigeonN (es.length) (seen++[j]) (by
    rw [List.nodup_append]
    exact ⟨n1,by simp,fun a ha b hb e=>hj (by rw [List.mem_singleton.1 hb] at e; rw [← e]; exact ha)⟩) (fun i hi=>by
    rcases List.mem_append.1 hi with hi | hi
    ·obtain ⟨v,hv⟩:=n2 i hi
     exact (List.getElem?_eq_some_iff.1 hv).1
    ·rw [List.mem_singleton.1 hi]; exact hjl)
   simp at this ⊢
   omega)
  rw [hmap] at hfn
  refine ayield (f:=?f) (x:=?x) (ts:=?ts) (s':=T (seen.map (vAt es)++[.agg [.int .i64 k1,.str k2,.int .i64 v1,.bool v2]])++[.it mid es.length (seen++[j])]) (l:=l) ?ho ?hf ?_ ?_
  case ho=>rfl
  case hf=>rfl
  ·intro a1 a2 a3 a4 b1 b2 b3 b4
   have hyy:=hY (seen.map (vAt es)) (some (seen++[j])) (.agg [.int .i64 k1,.str k2,.int .i64 v1,.bool v2]) ⟨seen,j,(⟨k1,k2⟩,v1,v2),n2,rfl,hlt,hy,rfl⟩ a1 a2 a3 a4
   simp only [itU,List.append_nil] at hyy
   exact hyy b1 b2 b3 b4
  refine goR (N:=15) Tryz.ntmps110 300 ?_
  simp only [go_sem,runR,contR,brR,step1R,resNR,stopNR,exitNR,dxk,dxkc,dbrk,↓brR_true,↓brR_false,↓dbrk_true,↓dbrk_false]
  refine ainvR hfn (Shift.weak ?_)
  simp only [wk,go_sem]
def nd00:Nd:=⟨⟨0,[]⟩,0,false⟩
def ndLt (a b:Nd):Prop:=elLt a.el b.el
theorem nd_ntrans (x y z:Nd) (h1:¬ ndLt y x) (h2:¬ ndLt z y):¬ ndLt z x:=elO.ntrans h1 h2
theorem nd_asymm (x y:Nd) (h:ndLt x y):¬ ndLt y x:=elO.asymm h
theorem ndA_get (l:List Nd) (i:Nat) (h:i < l.length):(l.map ndA).getD i .any=.agg [.int .i64 l[i].el.kind,.str l[i].el.name,.int .i64 l[i].n,.bool l[i].hand]:=by simp [List.getD,h,ndA]
theorem ndA_set (l:List Nd) (i:Nat) (x:Nd):(l.map ndA).set i (.agg [.int .i64 x.el.kind,.str x.el.name,.int .i64 x.n,.bool x.hand])=(l.set i x).map ndA:=by rw [List.map_set]; rfl
theorem ndA_frz:∀ l:List Nd,(flat (l.map ndA)).all Av.frozen=true
 | []=>rfl
 | a :: l=>by simp only [List.map_cons,flat,ndA,cellsOf,List.cons_append,List.nil_append,List.all_cons,Av.frozen,ndA_frz l,Bool.and_self]
theorem atNd {q:List Nd} {i:Nat} (h:i < q.length):q.getD i nd00=q[i]:=by simp [List.getD,h]
theorem byNd_pc (a b:Nd):Pc Tryz.prog 54 [ndA a,ndA b] (· = .int .i64 (elCmp a.el b.el)):=by
 have hb:=byElement_pc a.el b.el
 simp only [elA] at hb
 simp only [ndA]
 refine pc_intro (ct_intro Tryz.func54 rfl Tryz.ntmps54 hB54 (by simp) fun h ρ w=>goB (N:=10) Tryz.ntmps54 300 ?_)
 simp only [go_sem]
 refine pcall1 (hb) rfl (N:=10) Tryz.ntmps54 rfl (goB (N:=10) Tryz.ntmps54 300 ?_)
 simp only [go_sem]
 exact aret [4] rfl ⟨rfl,rfl⟩
theorem swapNd_perm {q l:List Nd} (hq:q.Perm l) {i j:Nat} (h1:i < q.length) (h2:j < q.length):((q.set i q[j]).set j q[i]).Perm l:=(List.set_set_perm h1 h2).trans hq
def SortedNd (l:List Nd) (bid:Nat) (s:List Blk) (r:AV) (s':List Blk):Prop:=r=.tup []∧∃ l':List Nd,s'=s.set bid (.arr 4 (l'.map ndA))∧l'.Perm l∧l'.Pairwise fun x y=>¬ ndLt y x
set_option maxHeartbeats 1000000 in
theorem insertionNd (l:List Nd) (s:List Blk) (bid:Nat) (hb:bid < s.length) (hl:l.length < 1000000) :
  Ct Tryz.prog 213 [.sl bid 0 l.length l.length,.int .i64 0,.int .i64 l.length,.fn (.func 54) []] (s.set bid (.arr 4 (l.map ndA))) (SortedNd l bid s):=by
 have hg:∀ b,(s.set bid b).getD bid .dead=b:=set_getD hb
 have hss:∀ a b:Blk,(s.set bid a).set bid b=s.set bid b:=fun a b=>by simp
 refine ct_intro Tryz.func213 rfl Tryz.ntmps213 hB213 (by simp) fun h ρ w=>goB (N:=53) Tryz.ntmps213 300 ?_
 simp only [go_sem]
 refine aloop (ι:=Nat × List Nd) (fun y=>l.length+1 - y.1) (fun y=>[(8,.int .i64 y.1),(3,.fn (.func 54) []),(2,.int .i64 l.length),(1,.int .i64 0),(0,.sl bid 0 l.length l.length)]) (fun y=>s.set bid (.arr 4 (y.2.map ndA)))
  (fun y=>1 ≤ y.1∧y.2.Perm l∧Sorted0 ndLt nd00 y.2 y.1) (1,l) ⟨by simp,.refl _,sorted0_one _⟩ ?_ ?_
 ·refine Shift.weakS ?_ rfl
  simp only [wk,go_sem]
 ·rintro ⟨i,q⟩ ⟨g1,g2,g3⟩ J hJ
  simp only at g1 g2 g3 hJ ⊢
  by_cases gi:i < l.length
  ·have di:decide ((i:Int) < (l.length:Int))=true:=by simp; omega
   refine goB (N:=53) Tryz.ntmps213 300 ?_
   simp only [go_sem,di]
   refine aloop (ι:=Nat × List Nd) (fun y=>y.1) (fun y=>[(9,.int .i64 y.1),(8,.int .i64 i),(3,.fn (.func 54) []),(2,.int .i64 l.length),(1,.int .i64 0),(0,.sl bid 0 l.length l.length)]) (fun y=>s.set bid (.arr 4 (y.2.map ndA)))
    (fun y=>y.1 ≤ i∧y.2.Perm l∧InsI ndLt nd00 y.2 i y.1) (i,q) ⟨by simp,g2,ins_start g3⟩ ?_ ?_
   ·refine Shift.weakS ?_ rfl
    simp only [wk,go_sem]
   ·rintro ⟨j,p⟩ ⟨k2,k3,k4⟩ K hK
    simp only at k2 k3 k4 hK ⊢
    have hq:=k3.length_eq
    by_cases hja:0 < j
    ·have dj:decide ((j:Int) > 0)=true:=by simp; omega
     have e1:((j:Int) - 1).toNat=j - 1:=by omega
     have p1:=ndA_get p j (by omega)
     have p2:=ndA_get p (j - 1) (by omega)
     have hc:=byNd_pc (p[j]'(by omega)) (p[j - 1]'(by omega))
     simp only [ndA] at hc
     refine goB (N:=53) Tryz.ntmps213 300 ?_
     simp only [go_sem]
     refine adraw [.int .i64 (elCmp (p[j]'(by omega)).el (p[j - 1]'(by omega)).el)] mixed (by decide) (N:=53) Tryz.ntmps213 (by decide) 100 ?_
     cases dc:decide (elCmp (p[j]'(by omega)).el (p[j - 1]'(by omega)).el < 0) with
     | true =>
      have hlt:ndLt (p.getD j nd00) (p.getD (j - 1) nd00):=by
       rw [atNd (by omega),atNd (by omega)]
       exact elCmp_lt.1 (of_decide_eq_true dc)
      have p3:=ndA_get (p.set j (p[j - 1]'(by omega))) (j - 1) (by simp; omega)
      have s1:=ndA_set p j (p[j - 1]'(by omega))
      have s2:=ndA_set (p.set j (p[j - 1]'(by omega))) (j - 1) (p[j]'(by omega))
      have hin:=ins_swap nd_asymm k4 hja (by omega) hlt
      rw [atNd (by omega),atNd (by omega)] at hin
      have hfin:=hK (j - 1,_) ⟨by simp only; omega,swapNd_perm k3 (i:=j) (j:=j - 1) (by omega) (by omega),hin⟩ (by simp only; omega)
      simp only [go_sem,dj,e1,p1,p2,dc,List.length_map,hg]
      repeat refine And.intro (by first | exact hc.at | omega | rfl | (simp; done) | (simp; omega)) ?_
      refine goB (N:=53) Tryz.ntmps213 300 ?_
      simp only [go_sem]
      refine adrawS [] mixed (by decide) (N:=53) Tryz.ntmps213 (by decide) 100 ?_
      simp only [go_sem,e1,p1,p2,p3,s1,s2,List.length_map,List.length_set,hg,hss]
      repeat refine And.intro (by first | omega | rfl | (simp; done) | (simp; omega)) ?_
      refine goB (N:=53) Tryz.ntmps213 300 ?_
      simp only [go_sem]
      repeat refine And.intro (by first | omega | rfl | (simp; done) | (simp; omega)) ?_
      rw [show (j:Int) - 1=((j - 1:Nat):Int) by omega]
      refine ainv hfin (Shift.weakS ?_ rfl)
      simp only [wk,go_sem]
     | false =>
      have hlt:¬ ndLt (p.getD j nd00) (p.getD (j - 1) nd00):=by
       rw [atNd (by omega),atNd (by omega)]
       exact fun h=>of_decide_eq_false dc (elCmp_lt.2 h)
      have hfin:=hJ (i+1,p) ⟨by simp only; omega,k3,ins_stop nd_ntrans k4 hja hlt⟩ (by simp only; omega)
      simp only [go_sem,dj,e1,p1,p2,dc,List.length_map,hg]
      repeat refine And.intro (by first | exact hc.at | omega | rfl | (simp; done) | (simp; omega)) ?_
      refine goB (N:=53) Tryz.ntmps213 300 ?_
      simp only [go_sem]
      repeat refine And.intro (by first | omega | rfl | (simp; done) | (simp; omega)) ?_
      rw [show (i:Int)+1=((i+1:Nat):Int) by omega]
      refine ainv hfin (Shift.weakS ?_ rfl)
      simp only [wk,go_sem]
    ·have dj:decide ((j:Int) > 0)=false:=by simp; omega
     have hj0:j=0:=by omega
     subst hj0
     have hfin:=hJ (i+1,p) ⟨by simp only; omega,k3,ins_stop0 k4⟩ (by simp only; omega)
     refine goB (N:=53) Tryz.ntmps213 300 ?_
     simp only [go_sem]
     refine adraw [.any] mixed (by decide) (N:=53) Tryz.ntmps213 (by decide) 100 ?_
     simp only [go_sem,dj]
     repeat refine And.intro (by first | omega | rfl | (simp; done) | (simp; omega)) ?_
     refine goB (N:=53) Tryz.ntmps213 300 ?_
     simp only [go_sem]
     repeat refine And.intro (by first | omega | rfl | (simp; done) | (simp; omega)) ?_
     rw [show (i:Int)+1=((i+1:Nat):Int) by omega]
     refine ainv hfin (Shift.weakS ?_ rfl)
     simp only [wk,go_sem]
  ·have di:decide ((i:Int) < (l.length:Int))=false:=by simp; omega
   refine goB (N:=53) Tryz.ntmps213 300 ?_
   simp only [go_sem,di]
   exact aret [] rfl ⟨rfl,q,rfl,g2,sorted0_all g3 (by rw [g2.length_eq]; omega)⟩
theorem pdqNd (l:List Nd) (s:List Blk) (bid:Nat) (hb:bid < s.length) (hl:l.length ≤ 12) (lim:AV) (hlim:nr1 lim=true) :
  Ct Tryz.prog 159 [.sl bid 0 l.length l.length,.int .i64 0,.int .i64 l.length,lim,.fn (.func 54) []] (s.set bid (.arr 4 (l.map ndA))) (SortedNd l bid s):=by
 have hr:=insertionNd l s bid hb (by omega)
 have d1:decide ((l.length:Int) - 0 ≤ 12)=true:=by simp; omega
 have d2:decide ((l.length:Int) ≤ 12)=true:=by simp; omega
 refine ct_intro Tryz.func159 rfl Tryz.ntmps159 hB159 (by simp) fun h ρ w=>goB (N:=148) Tryz.ntmps159 300 ?_
 simp only [go_sem]
 refine aenter (around ?_)
 refine goB (N:=148) Tryz.ntmps159 300 ?_
 simp only [go_sem,d1,d2]
 repeat refine And.intro (by first | omega | rfl | (simp; done) | (simp; omega)) ?_
 refine acall (hr) (N:=148) Tryz.ntmps159 rfl ?_
 rintro _ _ ⟨rfl,l',rfl,h1,h2⟩
 refine goB (N:=148) Tryz.ntmps159 300 ?_
 simp only [go_sem]
 exact aret [] rfl ⟨rfl,l',rfl,h1,h2⟩
theorem sortNd (l:List Nd) (s:List Blk) (bid:Nat) (hb:bid < s.length) (hl:l.length ≤ 12) :
  Ct Tryz.prog 109 [.sl bid 0 l.length l.length,.fn (.func 54) []] (s.set bid (.arr 4 (l.map ndA))) (SortedNd l bid s):=by
 have hg:∀ b,(s.set bid b).getD bid .dead=b:=set_getD hb
 refine ct_intro Tryz.func109 rfl Tryz.ntmps109 hB109 (by simp) fun h ρ w=>goB (N:=14) Tryz.ntmps109 300 ?_
 simp only [go_sem,hg,List.length_map]
 repeat refine And.intro (by first | omega | exact wrapU _ hl | rfl | (simp; done) | (simp; omega)) ?_
 refine pcall (len_pc l.length hl) rfl (N:=14) Tryz.ntmps109 rfl ?_
 rintro _ ⟨m,rfl⟩
 refine goB (N:=14) Tryz.ntmps109 300 ?_
 simp only [go_sem]
 refine acall (pdqNd l s bid hb hl (.int .i64 m) rfl) (N:=14) Tryz.ntmps109 rfl ?_
 rintro _ _ ⟨rfl,l',rfl,h1,h2⟩
 refine goB (N:=14) Tryz.ntmps109 300 ?_
 simp only [go_sem]
 exact aret [] rfl ⟨rfl,l',rfl,h1,h2⟩
end Go.Proofs.YtnfkjpihaficbaaGreatDoor
