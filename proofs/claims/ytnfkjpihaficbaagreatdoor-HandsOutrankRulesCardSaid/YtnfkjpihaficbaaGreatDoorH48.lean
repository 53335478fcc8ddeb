/- slices.IndexFunc, Contains, ContainsFunc, Concat at needs and tags. Own work of this seat (written by genAc.py). -/
import Derived.Test.YtnfkjpihaficbaaGreatDoorH47
set_option maxRecDepth 100000
set_option linter.unusedSimpArgs false
set_option linter.unusedVariables false
namespace Go.Proofs.YtnfkjpihaficbaaGreatDoor
open Go Go.Av Go.RowKit
def ndZ:AV:=.agg [.int .i64 0,.str [],.int .i64 0,.bool false]
theorem growNd_ct (n:Nat) (hn:0 < n) (hl:n < 1000000) (r:List Blk) :
  Ct Tryz.prog 57 [.raw (.slice none 0 0),.int .i64 n] r (fun v s=>v=.sl r.length 0 0 n∧s=r++[.arr 4 (List.replicate n (ndZ))]):=by
 have d1:decide ((n:Int) < 0)=false:=by simp
 have d2:decide ((n:Int) > 0)=true:=by simp; omega
 refine ct_intro Tryz.func57 rfl Tryz.ntmps57 hB57 (by simp) fun h ρ w=>goB (N:=27) Tryz.ntmps57 300 ?_
 simp only [go_sem,d1,d2,Int.sub_zero,gt_at0,st_at0,List.length_replicate]
 repeat refine And.intro (by first | omega | rfl | (simp; omega) | (simp; done)) ?_
 exact aret [4] rfl ⟨by simp [resV,Av.get,Av.put],rfl⟩
theorem growNd0_ct (r:List Blk) :
  Ct Tryz.prog 57 [.raw (.slice none 0 0),.int .i64 0] r (fun v s=>v=.raw (.slice none 0 0)∧s=r):=by
 refine ct_intro Tryz.func57 rfl Tryz.ntmps57 hB57 (by simp) fun h ρ w=>goB (N:=27) Tryz.ntmps57 300 ?_
 simp only [go_sem]
 repeat refine And.intro (by first | omega | rfl | (simp; omega)) ?_
 exact aret [4] rfl ⟨rfl,rfl⟩
theorem spliceNd {n:Nat} {z:AV} {x y:List AV} (h:x.length+y.length=n):splice' (splice' (List.replicate n z) 0 x) x.length y=x++y:=by
 subst h
 simp [splice']
set_option maxHeartbeats 4000000 in
theorem concatNd_ct (a b:List Nd) (ha:a.length < 100000) (hb:b.length < 100000) (r:List Blk) :
  Ct Tryz.prog 13 [.fz 1 [.fz 4 (a.map ndA),.fz 4 (b.map ndA)]] r (fun v s=>v=.sl r.length 0 (a++b).length (a++b).length∧s=r++[.arr 4 ((a++b).map ndA)]):=by
 have t1:decide ((0:Int)+(a.length:Int) < 0)=false:=decide_eq_false (by omega)
 have t2:decide ((0:Int)+(a.length:Int)+(b.length:Int) < 0)=false:=decide_eq_false (by omega)
 have e0:(0:Int)+(a.length:Int)+(b.length:Int)=((a.length+b.length:Nat):Int):=by omega
 by_cases hn:0 < a.length+b.length
 ·have hg:=growNd_ct (a.length+b.length) hn (by omega) r
  refine ct_intro Tryz.func13 rfl Tryz.ntmps13 hB13 (by simp) fun h ρ w=>goB (N:=36) Tryz.ntmps13 300 ?_
  simp only [go_sem]
  refine aenter (around ?_)
  refine goB (N:=36) Tryz.ntmps13 300 ?_
  simp only [go_sem,List.length_map,t1]
  repeat refine And.intro (by first | omega | rfl | (simp; omega)) ?_
  refine aagain (around ?_)
  refine goB (N:=36) Tryz.ntmps13 300 ?_
  simp only [go_sem,List.length_map,t2]
  repeat refine And.intro (by omega) ?_
  refine aagain (around ?_)
  refine goB (N:=36) Tryz.ntmps13 300 ?_
  simp only [go_sem,e0]
  refine acall (hg) (N:=36) Tryz.ntmps13 rfl ?_
  rintro _ _ ⟨rfl,rfl⟩
  refine goB (N:=36) Tryz.ntmps13 300 ?_
  simp only [go_sem]
  refine aenter (around ?_)
  have q1:(0 == a.length+b.length)=false:=by simp; omega
  have s1:=spliceNd (n:=a.length+b.length) (z:=ndZ) (x:=a.map ndA) (y:=b.map ndA) (by simp)
  have hz:ndZ=.agg [.int .i64 0,.str [],.int .i64 0,.bool false]:=rfl
  have l1:(splice' (List.replicate (a.length+b.length) (ndZ)) 0 (a.map ndA)).length=a.length+b.length:=by simp [splice'] <;> omega
  by_cases hb0:b=[]
  ·subst hb0
   have l2:splice' (List.replicate a.length (ndZ)) 0 (a.map ndA)=a.map ndA:=by simp [splice']
   simp only [List.length_nil,Nat.add_zero] at q1 l1 ⊢
   refine goB (N:=36) Tryz.ntmps13 300 ?_
   simp only [go_sem,q1,gt_at0,st_at0,List.length_map,List.length_replicate,l2,take_map]
   repeat refine And.intro (by first | omega | rfl | exact .inl rfl | exact .inl trivial | (simp; done) | (simp; omega)) ?_
   refine aagain (around ?_)
   refine goB (N:=36) Tryz.ntmps13 300 ?_
   simp only [go_sem,gt_at0,st_at0,List.length_map,List.length_replicate,l2]
   repeat refine And.intro (by first | omega | rfl | exact .inl rfl | exact .inl trivial | (simp; done) | (simp; omega)) ?_
   refine aagain (around ?_)
   refine goB (N:=36) Tryz.ntmps13 300 ?_
   simp only [go_sem]
   exact aret [2] rfl ⟨by simp [resV,Av.get,Av.put],by simp⟩
  ·have hb1:0 < b.length:=List.length_pos_iff.2 hb0
   have q2:(0+a.length == a.length+b.length)=false:=by simp; omega
   have q3:(a.length == a.length+b.length)=false:=by simp; omega
   refine goB (N:=36) Tryz.ntmps13 300 ?_
   simp only [go_sem,q1,q2,q3,gt_at0,st_at0,List.length_map,List.length_replicate,l1]
   repeat refine And.intro (by first | omega | rfl | exact .inl rfl | exact .inl trivial | (simp; done) | (simp; omega)) ?_
   refine aagain (around ?_)
   refine goB (N:=36) Tryz.ntmps13 300 ?_
   simp only [go_sem,q1,q2,q3,gt_at0,st_at0,List.length_map,List.length_replicate,l1]
   repeat refine And.intro (by first | omega | rfl | exact .inl rfl | exact .inl trivial | (simp; done) | (simp; omega)) ?_
   refine aagain (around ?_)
   refine goB (N:=36) Tryz.ntmps13 300 ?_
   simp only [go_sem]
   refine aret [2] rfl ⟨by simp [resV,Av.get,Av.put],?_⟩
   have:List.drop (a.length+b.length) (a.map ndA++List.drop a.length (List.replicate (a.length+b.length) (ndZ)))=[]:=List.drop_eq_nil_of_le (by simp)
   rw [this,List.append_nil,List.take_left' (by simp),← List.map_append]
 ·obtain rfl:a=[]:=List.eq_nil_of_length_eq_zero (by omega)
  obtain rfl:b=[]:=List.eq_nil_of_length_eq_zero (by omega)
  have hg:=growNd0_ct r
  refine ct_intro Tryz.func13 rfl Tryz.ntmps13 hB13 (by simp) fun h ρ w=>goB (N:=36) Tryz.ntmps13 300 ?_
  simp only [go_sem]
  refine aenter (around ?_)
  refine goB (N:=36) Tryz.ntmps13 300 ?_
  simp only [go_sem,List.map_nil,List.length_nil]
  repeat refine And.intro (by first | omega | rfl | (simp; omega)) ?_
  refine aagain (around ?_)
  refine goB (N:=36) Tryz.ntmps13 300 ?_
  simp only [go_sem,List.map_nil,List.length_nil]
  repeat refine And.intro (by first | omega | rfl | (simp; omega)) ?_
  refine aagain (around ?_)
  refine goB (N:=36) Tryz.ntmps13 300 ?_
  simp only [go_sem]
  refine acall (hg) (N:=36) Tryz.ntmps13 rfl ?_
  rintro _ _ ⟨rfl,rfl⟩
  refine goB (N:=36) Tryz.ntmps13 300 ?_
  simp only [go_sem]
  refine aenter (around ?_)
  refine goB (N:=36) Tryz.ntmps13 300 ?_
  simp only [go_sem,List.map_nil,List.length_nil,gt_at0,st_at0]
  repeat refine And.intro (by first | omega | rfl | exact .inl rfl | exact .inl trivial | (simp; done) | (simp; omega)) ?_
  refine aagain (around ?_)
  refine goB (N:=36) Tryz.ntmps13 300 ?_
  simp only [go_sem,List.map_nil,List.length_nil,gt_at0,st_at0]
  repeat refine And.intro (by first | omega | rfl | exact .inl rfl | exact .inl trivial | (simp; done) | (simp; omega)) ?_
  refine aagain (around ?_)
  refine goB (N:=36) Tryz.ntmps13 300 ?_
  simp only [go_sem]
  exact aret [2] rfl ⟨by simp [resV,Av.get,Av.put],by simp⟩
theorem idxTg_pc (f:FuncId) (caps:List AV) (hc:caps.all frozen0=true) (p:Tg→Bool) (l:List Tg) (hl:l.length < 100000000) (hf:∀ x ∈ l,Pc Tryz.prog f (tgA x :: caps) (· = .bool (p x))) :
  Pc Tryz.prog 14 [.fz 4 (l.map tgA),.fn (.func f) caps] (· = .int .i64 (idxP p l)):=by
 refine pc_intro (ct_intro Tryz.func14 rfl Tryz.ntmps14 hB14 (by simp) fun h ρ w=>goB (N:=19) Tryz.ntmps14 300 ?_)
 simp only [go_sem]
 refine aloop (ι:=Nat) (fun i=>l.length - i) (fun i=>[(8,.int .i64 i),(7,.int .i64 l.length),(1,.fn (.func f) caps),(0,.fz 4 (l.map tgA))]) (fun _=>[]) (fun i=>i ≤ l.length∧∀ j,(hj:j < l.length)→j < i→p l[j]=false) 0 ⟨by simp,fun j _ h=>absurd h (by omega)⟩ ?_ ?_
 ·refine Shift.weak ?_
  simp only [wk,go_sem,List.length_map]
 ·rintro i ⟨g1,g2⟩ J hJ
  by_cases gi:i < l.length
  ·have di:decide ((i:Int) < (l.length:Int))=true:=by simp; omega
   have hfx:=hf _ (List.getElem_mem gi)
   simp only [tgA] at hfx
   refine goB (N:=19) Tryz.ntmps14 300 ?_
   simp only [go_sem,di,tgA_get l i gi,List.length_map]
   repeat refine And.intro (by first | omega | rfl | (simp; omega)) ?_
   cases hp:p l[i] with
   | true =>
    rw [hp] at hfx
    refine pcall1 hfx (nr1_cons rfl hc) (N:=19) Tryz.ntmps14 rfl (goB (N:=19) Tryz.ntmps14 300 ?_)
    simp only [go_sem]
    exact aret [4] rfl ⟨congrArg _ (idxP_some gi hp fun j hj=>g2 j (by omega) hj).symm,rfl⟩
   | false =>
    rw [hp] at hfx
    refine pcall1 hfx (nr1_cons rfl hc) (N:=19) Tryz.ntmps14 rfl (goB (N:=19) Tryz.ntmps14 300 ?_)
    simp only [go_sem]
    repeat refine And.intro (by first | omega | rfl) ?_
    rw [show (i:Int)+1=((i+1:Nat):Int) by omega]
    refine ainv (hJ (i+1) ⟨by omega,fun j hj h=>?_⟩ (by omega)) (Shift.weak ?_)
    ·rcases Nat.lt_or_ge j i with h2 | h2
     ·exact g2 j hj h2
     ·have:j=i:=by omega
      subst this; exact hp
    ·simp only [wk,go_sem]
  ·have di:decide ((i:Int) < (l.length:Int))=false:=by simp; omega
   refine goB (N:=19) Tryz.ntmps14 300 ?_
   simp only [go_sem,di]
   exact aret [4] rfl ⟨congrArg _ (idxP_none fun j hj=>g2 j hj (by omega)).symm,rfl⟩
theorem idxNd_pc (f:FuncId) (caps:List AV) (hc:caps.all frozen0=true) (p:Nd→Bool) (l:List Nd) (hl:l.length < 100000000) (hf:∀ x ∈ l,Pc Tryz.prog f (ndA x :: caps) (· = .bool (p x))) :
  Pc Tryz.prog 59 [.fz 4 (l.map ndA),.fn (.func f) caps] (· = .int .i64 (idxP p l)):=by
 refine pc_intro (ct_intro Tryz.func59 rfl Tryz.ntmps59 hB59 (by simp) fun h ρ w=>goB (N:=19) Tryz.ntmps59 300 ?_)
 simp only [go_sem]
 refine aloop (ι:=Nat) (fun i=>l.length - i) (fun i=>[(8,.int .i64 i),(7,.int .i64 l.length),(1,.fn (.func f) caps),(0,.fz 4 (l.map ndA))]) (fun _=>[]) (fun i=>i ≤ l.length∧∀ j,(hj:j < l.length)→j < i→p l[j]=false) 0 ⟨by simp,fun j _ h=>absurd h (by omega)⟩ ?_ ?_
 ·refine Shift.weak ?_
  simp only [wk,go_sem,List.length_map]
 ·rintro i ⟨g1,g2⟩ J hJ
  by_cases gi:i < l.length
  ·have di:decide ((i:Int) < (l.length:Int))=true:=by simp; omega
   have hfx:=hf _ (List.getElem_mem gi)
   simp only [ndA] at hfx
   refine goB (N:=19) Tryz.ntmps59 300 ?_
   simp only [go_sem,di,ndA_get l i gi,List.length_map]
   repeat refine And.intro (by first | omega | rfl | (simp; omega)) ?_
   cases hp:p l[i] with
   | true =>
    rw [hp] at hfx
    refine pcall1 hfx (nr1_cons rfl hc) (N:=19) Tryz.ntmps59 rfl (goB (N:=19) Tryz.ntmps59 300 ?_)
    simp only [go_sem]
    exact aret [4] rfl ⟨congrArg _ (idxP_some gi hp fun j hj=>g2 j (by omega) hj).symm,rfl⟩
   | false =>
    rw [hp] at hfx
    refine pcall1 hfx (nr1_cons rfl hc) (N:=19) Tryz.ntmps59 rfl (goB (N:=19) Tryz.ntmps59 300 ?_)
    simp only [go_sem]
    repeat refine And.intro (by first | omega | rfl) ?_
    rw [show (i:Int)+1=((i+1:Nat):Int) by omega]
    refine ainv (hJ (i+1) ⟨by omega,fun j hj h=>?_⟩ (by omega)) (Shift.weak ?_)
    ·rcases Nat.lt_or_ge j i with h2 | h2
     ·exact g2 j hj h2
     ·have:j=i:=by omega
      subst this; exact hp
    ·simp only [wk,go_sem]
  ·have di:decide ((i:Int) < (l.length:Int))=false:=by simp; omega
   refine goB (N:=19) Tryz.ntmps59 300 ?_
   simp only [go_sem,di]
   exact aret [4] rfl ⟨congrArg _ (idxP_none fun j hj=>g2 j hj (by omega)).symm,rfl⟩
theorem anyNd_pc (f:FuncId) (caps:List AV) (hc:caps.all frozen0=true) (p:Nd→Bool) (l:List Nd) (hl:l.length < 100000000) (hf:∀ x ∈ l,Pc Tryz.prog f (ndA x :: caps) (· = .bool (p x))) :
  Pc Tryz.prog 17 [.fz 4 (l.map ndA),.fn (.func f) caps] (· = .bool (l.any p)):=by
 refine pc_intro (ct_intro Tryz.func17 rfl Tryz.ntmps17 hB17 (by simp) fun h ρ w=>goB (N:=9) Tryz.ntmps17 300 ?_)
 simp only [go_sem]
 refine pcall1 (idxNd_pc f caps hc p l hl hf) (by simp only [List.all_cons,List.all_nil,nr1,Av.frozen,hc,Bool.and_self]) (N:=9) Tryz.ntmps17 rfl (goB (N:=9) Tryz.ntmps17 300 ?_)
 simp only [go_sem]
 refine aret [4] rfl ⟨?_,rfl⟩
 simp only [resV,Av.get,Av.put,cond_true,beq_self_eq_true]
 rw [← idxP_any]
def eqNd (v p:Nd):Bool:=(v.el.kind == p.el.kind && v.el.name == p.el.name) && (v.n == p.n && v.hand == p.hand)
theorem eqNd_iff {v p:Nd}:eqNd v p=true ↔ v=p:=by
 obtain ⟨⟨a,b⟩,c,d⟩:=v
 obtain ⟨⟨e,f⟩,g,h⟩:=p
 simp [eqNd,and_assoc]
theorem any_eqNd (v:Nd) (l:List Nd):l.any (eqNd v)=true ↔ v ∈ l:=by
 rw [List.any_eq_true]
 constructor
 ·rintro ⟨y,hy,he⟩
  rw [eqNd_iff.1 he]
  exact hy
 ·exact fun h=>⟨v,h,eqNd_iff.2 rfl⟩
set_option maxHeartbeats 1000000 in
theorem indexNd_pc (ps:List Nd) (v:Nd) (hl:ps.length < 1000000):Pc Tryz.prog 58 [.fz 4 (ps.map ndA),ndA v] (fun r=>∃ n:Int,r=.int .i64 n∧decide (n ≥ 0)=ps.any (eqNd v)):=by
 simp only [ndA]
 refine pc_intro (ct_intro Tryz.func58 rfl Tryz.ntmps58 hB58 (by simp) fun h ρ w=>go (N:=19) Tryz.ntmps58 300 ?_)
 simp only [go_sem,List.length_map]
 refine aloop (ι:=Nat) (fun i=>ps.length - i) (fun i=>[(8,.int .i64 i),(7,.int .i64 ps.length),(3,.ptr 0 1 0 0),(0,.fz 4 (ps.map ndA))]) (fun _=>[.arr 4 [.agg [.int .i64 v.el.kind,.str v.el.name,.int .i64 v.n,.bool v.hand]]]) (fun i=>i ≤ ps.length∧(ps.take i).any (eqNd v)=false) 0 (by simp) ?_ ?_
 ·refine Shift.weak ?_
  simp only [wk,go_sem]
  first | done | exact ⟨rfl,rfl⟩ | rfl
 ·rintro i ⟨g1,g2⟩ J hJ
  by_cases gi:i < ps.length
  ·have di:decide ((i:Int) < (ps.length:Int))=true:=by simp; omega
   have hg':=ndA_get ps i gi
   have again:eqNd v ps[i]=false→(ps.take (i+1)).any (eqNd v)=false:=fun h=>by
    rw [List.take_succ_eq_append_getElem gi,List.any_append,g2]
    simp [h]
   have hit:eqNd v ps[i]=true→ps.any (eqNd v)=true:=fun h=>List.any_eq_true.2 ⟨_,List.getElem_mem gi,h⟩
   cases he:eqNd v ps[i] with
   | true =>
    have h3:=hit he
    unfold eqNd at he
    generalize ps[i]=q at *
    refine go (N:=19) Tryz.ntmps58 300 ?_
    simp only [go_sem,di]
    refine adraw [] mixed (by decide) (N:=19) Tryz.ntmps58 (by decide) 100 ?_
    simp only [go_sem,hg',List.length_map,he]
    repeat refine And.intro (by first | omega | rfl | kernel_rfl | (simp; done) | (simp; omega)) ?_
    refine go (N:=19) Tryz.ntmps58 300 ?_
    simp only [go_sem]
    refine aret [4] rfl ⟨⟨_,rfl,?_⟩,rfl⟩
    rw [h3]
    simp
   | false =>
    have h3:=again he
    have hfin:=hJ (i+1) ⟨by omega,h3⟩ (by omega)
    unfold eqNd at he
    clear hJ again hit h3
    generalize ps[i]=q at *
    refine go (N:=19) Tryz.ntmps58 300 ?_
    simp only [go_sem,di]
    refine adraw [] mixed (by decide) (N:=19) Tryz.ntmps58 (by decide) 100 ?_
    simp only [go_sem,hg',List.length_map,he]
    repeat refine And.intro (by first | omega | rfl | kernel_rfl | (simp; done) | (simp; omega)) ?_
    refine go (N:=19) Tryz.ntmps58 300 ?_
    simp only [go_sem]
    repeat refine And.intro (by omega) ?_
    rw [show (i:Int)+1=((i+1:Nat):Int) by omega]
    refine ainv hfin (Shift.weak ?_)
    simp only [wk,go_sem]
  ·have di:decide ((i:Int) < (ps.length:Int))=false:=by simp; omega
   rw [List.take_of_length_le (by omega)] at g2
   refine go (N:=19) Tryz.ntmps58 300 ?_
   simp only [go_sem,di]
   refine aret [4] rfl ⟨⟨_,rfl,?_⟩,rfl⟩
   rw [g2]
   simp
theorem hasNd_pc (ps:List Nd) (v:Nd) (hl:ps.length < 1000000):Pc Tryz.prog 16 [.fz 4 (ps.map ndA),ndA v] (· = .bool (ps.any (eqNd v))):=by
 have hix:=indexNd_pc ps v hl
 simp only [ndA] at hix ⊢
 refine pc_intro (ct_intro Tryz.func16 rfl Tryz.ntmps16 hB16 (by simp) fun h ρ w=>goB (N:=9) Tryz.ntmps16 300 ?_)
 simp only [go_sem]
 refine pcall (hix) rfl (N:=9) Tryz.ntmps16 rfl ?_
 rintro _ ⟨n,rfl,hn⟩
 refine goB (N:=9) Tryz.ntmps16 300 ?_
 simp only [go_sem,hn]
 exact aret [4] rfl ⟨rfl,rfl⟩
theorem hr1_pc (t:Tg) (no:List UInt8) (N:AV) (m:Nd):Pc Tryz.prog 15 [tgA t,.pin 2 [.agg [.str no,N]] 0 0,.pin 4 [ndA m] 0 0] (· = .bool (t.scene == no && t.el == m.el)):=by
 have he:(t.el == m.el)=(t.el.kind == m.el.kind && t.el.name == m.el.name):=el_beq _ _
 rw [he]
 simp only [tgA,ndA]
 refine pc_intro (ct_intro Tryz.func15 rfl Tryz.ntmps15 hB15 (by simp) fun h ρ w=>goB (N:=17) Tryz.ntmps15 300 ?_)
 cases e1:t.scene == no with
 | true =>
  simp only [go_sem,e1]
  repeat refine And.intro (by first | omega | rfl | kernel_rfl | (simp; done) | (simp; omega)) ?_
  exact aret [4] rfl ⟨by simp [resV,Av.get,Av.put],rfl⟩
 | false =>
  simp only [go_sem,e1]
  repeat refine And.intro (by first | omega | rfl | kernel_rfl | (simp; done) | (simp; omega)) ?_
  exact aret [4] rfl ⟨by simp [resV,Av.get,Av.put],rfl⟩
set_option maxHeartbeats 1000000 in
theorem hr2_pc (z m:Nd) (ts:List Tg) (k:Nat) (hk:k < ts.length):Pc Tryz.prog 18 [ndA z,.pin 4 [ndA m] 0 0,.pin 1 [.fz 4 (ts.map tgA)] 0 0,.pin 1 [.int .i64 k] 0 0] (· = .bool (z.el == m.el && (z.n != ts[k].n || !z.hand))):=by
 have he:(z.el == m.el)=(z.el.kind == m.el.kind && z.el.name == m.el.name):=el_beq _ _
 have hg:=tgA_get ts k hk
 rw [he]
 generalize ts[k]=t at *
 simp only [ndA]
 cases e1:(z.el.kind == m.el.kind && z.el.name == m.el.name) with
 | false =>
  refine pc_intro (ct_intro Tryz.func18 rfl Tryz.ntmps18 hB18 (by simp) fun h ρ w=>goB (N:=26) Tryz.ntmps18 300 ?_)
  simp only [go_sem]
  refine adraw [] mixed (by decide) (N:=26) Tryz.ntmps18 (by decide) 100 ?_
  simp only [go_sem,e1]
  repeat refine And.intro (by first | omega | rfl | kernel_rfl | (simp; done) | (simp; omega)) ?_
  refine goB (N:=26) Tryz.ntmps18 300 ?_
  simp only [go_sem]
  exact aret [5] rfl ⟨by simp [resV,Av.get,Av.put],rfl⟩
 | true =>
  cases e2:z.n != t.n with
  | true =>
   refine pc_intro (ct_intro Tryz.func18 rfl Tryz.ntmps18 hB18 (by simp) fun h ρ w=>goB (N:=26) Tryz.ntmps18 300 ?_)
   simp only [go_sem]
   refine adraw [] mixed (by decide) (N:=26) Tryz.ntmps18 (by decide) 100 ?_
   simp only [go_sem,e1,e2,hg,List.length_map]
   repeat refine And.intro (by first | omega | rfl | kernel_rfl | (simp; done) | (simp; omega)) ?_
   refine goB (N:=26) Tryz.ntmps18 300 ?_
   simp only [go_sem]
   exact aret [5] rfl ⟨by simp [resV,Av.get,Av.put],rfl⟩
  | false =>
   refine pc_intro (ct_intro Tryz.func18 rfl Tryz.ntmps18 hB18 (by simp) fun h ρ w=>goB (N:=26) Tryz.ntmps18 300 ?_)
   simp only [go_sem]
   refine adraw [] mixed (by decide) (N:=26) Tryz.ntmps18 (by decide) 100 ?_
   simp only [go_sem,e1,e2,hg,List.length_map]
   repeat refine And.intro (by first | omega | rfl | kernel_rfl | (simp; done) | (simp; omega)) ?_
   refine goB (N:=26) Tryz.ntmps18 300 ?_
   simp only [go_sem]
   exact aret [5] rfl ⟨by simp [resV,Av.get,Av.put],rfl⟩
end Go.Proofs.YtnfkjpihaficbaaGreatDoor
set_option linter.unusedSectionVars false
namespace Go.Av
open Go Go.RowKit
variable [Tr]
section
variable {h H:Mem} {ρ:Own} {s:List Blk} {w:World}
theorem borG_frz (hH:∀ b o v,h b o=some v→H b o=some v) {v:Value} {a:AV} (m:Mine h ρ s w) (r:RV h (Lf ρ s) false v a) (hf:frozen a=true):RV (H) Lf0 true v a :=
 (frz_one r hf).thaw hH
theorem borG_list {n:Nat} (hn:∀ {v:Value} {a:AV},RV h (Lf ρ s) false v a→RV (H) Lf0 true v (bor n s a)):∀ {l:List AV} {vs:List Value},RL h (Lf ρ s) false vs l→RL (H) Lf0 true vs (l.map (bor n s))
 | [],_,r=>by cases r; exact .nil
 | a :: l,_,r=>by cases r with | cons r1 r2=>exact .cons (hn r1) (borG_list hn r2)
theorem borG_ok (hH:∀ b o v,h b o=some v→H b o=some v) (hO:∀ i g t o v,ρ i=some (g,t)→w.cell? ⟨g,o,none⟩=some v→v.oneCell'=true→H g o=some v) (m:Mine h ρ s w):∀ (n:Nat) {v:Value} {a:AV},RV h (Lf ρ s) false v a→RV (H) Lf0 true v (bor n s a)
 | 0,v,a,r=>by
  cases a with
  | sl id o l c=>exact .any _
  | ptr id m i o=>exact .any _
  | mp id=>exact .any _
  | agg r=>exact .any _
  | tup r=>exact .any _
  | fn f r=>exact .any _
  | _=>exact borG_frz hH m r rfl
 | n+1,v,a,r=>by
  cases a with
  | sl id off len cap =>
   rw [bor_sl]
   have hl:=(inv_sl r).2
   cases hq:s[id]? with
   | none=>simp only [LfC,hq] at hl
   | some b =>
    have hgd:s.getD id .dead=b:=by rw [List.getD_eq_getElem?_getD,hq]; rfl
    rw [hgd]
    cases b with
    | arr e l =>
     simp only
     cases hd:decide (off+cap=l.length) && decide (len ≤ cap) with
     | false=>exact .any _
     | true =>
      simp only [Bool.and_eq_true,decide_eq_true_eq] at hd
      obtain ⟨hc,hlc⟩:=hd
      simp only [LfC,hq] at hl
      simp only [cond_true]
      rcases hl.2 hc with ⟨rfl,rfl,a,rfl⟩ | ⟨g,tot,h1,rfl,_⟩
      ·simp only [List.take_zero,List.map_nil]
       cases a with
       | none=>simpa [at0] using RV.fznil e
       | some a=>simpa [at0] using RV.fz (h:=H) (Lf:=Lf0) (fl:=true) a.1 a.2 0 e [] [] .nil (by simp) (by simp) (Nat.le_refl _)
      ·rcases m.own id _ hq with ⟨_,hn⟩ | ⟨g',tot',cur,t,h3,h4,h5,h6,h7,h8,h9,h10,h11⟩
       ·rw [hn] at h1; cases h1
       ·rw [h3] at h1
        simp only [Option.some.injEq,Prod.mk.injEq] at h1
        obtain ⟨rfl,rfl⟩:=h1
        have hfl:=flat_length h9
        have hlen:(((l.drop off).take len).map (borC n s)).length=len:=by simp; omega
        have hr:RL (H) Lf0 true (((cur.toList.take (l.length * e)).drop (off * e)).take (len * e)) (flat (((l.drop off).take len).map (borC n s))):=by
         rw [bor_flat,← flat_take (l:=l.drop off) (esz:=e) (fun x hx=>h9 x (List.mem_of_mem_drop hx)) len,← flat_drop h9 off,List.map_take,List.map_drop]
         exact ((borG_list (fun r=>borG_ok hH hO m n r) h11).drop _).take _
        have:=RV.fz (h:=H) (Lf:=Lf0) (fl:=true) g' (off * e) (tot' - off) e (((l.drop off).take len).map (borC n s)) _ hr (fun x hx=>by
         obtain ⟨y,hy,rfl⟩:=List.mem_map.1 hx
         rw [bor_cells,List.length_map]
         exact h9 y (List.mem_of_mem_drop (List.mem_of_mem_take hy))) (fun k v hk=>by
         rw [List.getElem?_take] at hk
         split at hk
         ·rw [List.getElem?_drop,List.getElem?_take] at hk
          split at hk
          ·have h12:=h10 v (List.mem_of_getElem? hk)
           exact hO id _ _ _ _ h3 (by rw [h4.cell,← Array.getElem?_toList,hk]) h12
          ·simp at hk
         ·simp at hk) (by rw [hlen]; omega)
        rwa [hlen] at this
    | _=>exact .any _
  | ptr id m i o=>exact .any _
  | mp id=>exact .any _
  | agg r=>exact .any _
  | tup r=>exact .any _
  | fn f r=>exact .any _
  | _=>exact borG_frz hH m r rfl
theorem borG_val (hH:∀ b o v,h b o=some v→H b o=some v) (hO:∀ i g t o v,ρ i=some (g,t)→w.cell? ⟨g,o,none⟩=some v→v.oneCell'=true→H g o=some v) (m:Mine h ρ s w) (n:Nat) {v:Value} {a:AV} (r:RV h (Lf ρ s) false v a):RV (H) Lf0 true v (borC n s a):=by
 cases a with
 | agg l =>
  obtain ⟨vs,rfl,rl⟩:=inv_agg r
  exact .agg vs _ (borG_list (fun r=>borG_ok hH hO m n r) rl)
 | _=>exact borG_ok hH hO m n r
theorem borG_args (hH:∀ b o v,h b o=some v→H b o=some v) (hO:∀ i g t o v,ρ i=some (g,t)→w.cell? ⟨g,o,none⟩=some v→v.oneCell'=true→H g o=some v) (m:Mine h ρ s w) (n:Nat):∀ {l:List AV} {vs:List Value},RL h (Lf ρ s) false vs l→RL (H) Lf0 true vs (l.map (borC n s))
 | [],_,r=>by cases r; exact .nil
 | a :: l,_,r=>by cases r with | cons r1 r2=>exact .cons (borG_val hH hO m n r1) (borG_args hH hO m n r2)
end
def borV (n:Nat) (s:List Blk):AV→AV
 | .tup r=>.tup (r.map (borC n s))
 | x=>borC n s x
theorem PcH.ofOwn {P:Program} {g:Std} {f:FuncId} {args:List AV} {post:AV→List Blk→Prop} (n:Nat) (hc:CtH P g f args [] post):PcH P g f args (fun r=>∃ r' s,post r' s∧r=borV n s r'):=by
 refine ⟨hc.1,fun h w vs hg hm hv=>?_⟩
 have hmine:Mine h (fun _=>none) [] w:=⟨hm,fun id blk e=>by simp at e,fun _ _=>rfl,fun i j g t t' e=>by simp at e,fun i g t e=>by simp at e⟩
 refine (hc.2 h (fun _=>none) w vs (fun k o e=>⟨hg k o e,fun i t hi=>by simp at hi⟩) hmine (hv.thaw (fun _ _ _ x=>x))).mono ?_
 rintro en w' ⟨v,r,s,h',ρ',rfl,hp,hm',hl,rv⟩
 have hnew:∀ b o,h b o=none→h' b o ≠ none→w.heap.size ≤ b:=fun b o e n=>by
  rcases hl.hnew b o e n with ⟨j,t,hj⟩ | hs
  ·simp at hj
  ·exact hs
 have hgood:∀ i g t,ρ' i=some (g,t)→w.heap.size ≤ g:=fun i g t e=>by
  rcases hl.newown i g t e with ⟨j,t',hj⟩ | h
  ·cases hj
  ·exact h
 obtain ⟨H,hHd⟩:∃ H:Mem,H=fun b o=>if b < w.heap.size then h b o else allOf w' b o:=⟨_,rfl⟩
 have e1:∀ b o,b < w.heap.size→H b o=h b o:=fun b o hb=>by rw [hHd]; simp [hb]
 have e2:∀ b o,w.heap.size ≤ b→H b o=allOf w' b o:=fun b o hb=>by rw [hHd]; simp [Nat.not_lt.2 hb]
 have hlow:∀ b o v,h b o=some v→b < w.heap.size:=fun b o v e=>hmine.memlt e
 have hH:∀ b o v,h' b o=some v→H b o=some v:=fun b o v e=>by
  by_cases hb:b < w.heap.size
  ·rw [e1 b o hb]
   cases hq:h b o with
   | none=>have:=hnew b o hq (by rw [e]; simp); omega
   | some u=>rw [← e,hl.hle b o u hq]
  ·rw [e2 b o (by omega)]
   exact allOf_le hm'.mem b o v e
 have hO:∀ i g t o v,ρ' i=some (g,t)→w'.cell? ⟨g,o,none⟩=some v→v.oneCell'=true→H g o=some v:=fun i g t o v e hc h1=>by
  rw [e2 g o (hgood i g t e)]
  unfold allOf
  rw [hc]
  simp [h1]
 refine ⟨v,borV n s r,H,rfl,⟨r,s,hp,rfl⟩,fun b o v e=>?_,fun b o v e=>?_,fun b o e n=>?_,⟨hl.os,hl.tape,hl.output,hl.size,fun k hk=>hl.block k hk (fun i t e=>by simp at e)⟩,?_⟩
 ·by_cases hb:b < w.heap.size
  ·rw [e1 b o hb] at e
   exact hm'.mem b o v (hl.hle b o v e)
  ·rw [e2 b o (by omega)] at e
   exact allOf_mem b o v e
 ·rw [e1 b o (hlow b o v e)]; exact e
 ·by_cases hb:b < w.heap.size
  ·rw [e1 b o hb] at n; exact absurd e n
  ·omega
 ·cases r with
  | tup l =>
   obtain ⟨us,rfl,rl⟩:=inv_tup rv
   exact .tup us _ (borG_args hH hO hm' n rl)
  | _=>exact borG_val hH hO hm' n rv
theorem Pc.ofOwn {P:Program} {f:FuncId} {args:List AV} {post:AV→List Blk→Prop} (n:Nat) (hc:Ct P f args [] post):Pc P f args (fun r=>∃ r' s,post r' s∧r=borV n s r'):=by
 have h:=PcH.ofOwn (g:=fun _=>none) n hc.toH
 exact ⟨h.1,fun hh w vs hm hv=>h.2 hh w vs (fun k o e=>by cases e) hm hv⟩
end Go.Av
namespace Go.Proofs.YtnfkjpihaficbaaGreatDoor
open Go Go.Av Go.RowKit
def factsAt (kf:Fa→Nat) (fs:List Fa) (i:Nat):List Fa:=fs.filter fun f=>kf f == i
def esAt (kf:Fa→Nat) (fs:List Fa) (ord:List Nat) (j:Nat):LMap:=lrun ((ord.take j).flatMap (factsAt kf fs))
theorem tix_put {κ ν:Type} [DecidableEq κ] (es:List (Option (κ × ν))) (k:κ) (v:ν):∃ i,tix k (tput es k v)=some i:=by
 cases h:tix k (tput es k v) with
 | some i=>exact ⟨i,rfl⟩
 | none =>
  exfalso
  rw [tix_none] at h
  unfold tput at h
  cases hq:tix k es with
  | none=>rw [hq] at h; exact h (k,v) (by simp) rfl
  | some i =>
   rw [hq] at h
   obtain ⟨v0,h1,_⟩:=tix_some hq
   have hi:=(List.getElem?_eq_some_iff.1 h1).1
   exact h (k,v) (List.mem_of_getElem? (i:=i) (by rw [List.getElem?_set_self hi])) rfl
end Go.Proofs.YtnfkjpihaficbaaGreatDoor
