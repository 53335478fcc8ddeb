/- tag.Looks. Own work of this seat. -/
import Derived.Shelf.SlMaps.Clone
import Derived.Shelf.SlGeneric
import Derived.Test.YtnfkjpihaficbaaGreatDoorH49
set_option maxRecDepth 100000
set_option linter.unusedSimpArgs false
set_option linter.unusedVariables false
namespace Go.Proofs.YtnfkjpihaficbaaGreatDoor
open Go Go.Av Go.RowKit
def looksAt (x:Sr) (js:List Jm) (fs:List Fa) (n:Nat):LMap:=esAt (kfN x) fs (ordL x js) ((ordL x js).idxOf n+1)
structure RightOk (x:Sr) (js:List Jm) (fs:List Fa):Prop where
 story:StoryOk x
 jumps:JumpsOk x js
 facts:FactsOk x fs
end Go.Proofs.YtnfkjpihaficbaaGreatDoor
set_option linter.unusedSectionVars false
namespace Go.Av
open Go Go.RowKit Go.Shelf Go.Proofs
variable [Tr]
end Go.Av
namespace Go.Proofs
open Go.Shelf
end Go.Proofs
namespace Go.Proofs.YtnfkjpihaficbaaGreatDoor
open Go Go.Av Go.RowKit
structure Stg where
 no:List UInt8
 looks:List Lk
theorem PcH.imp {P:Program} {g:Std} {f:FuncId} {args:List AV} {p q:AV→Prop} (h:PcH P g f args p) (hpq:∀ r,p r→q r):PcH P g f args q:=by
 refine ⟨h.1,fun hh w vs h1 h2 h3=>(h.2 hh w vs h1 h2 h3).mono ?_⟩
 rintro en w' ⟨v,r,h',e,hp,rest⟩
 exact ⟨v,r,h',e,hpq r hp,rest⟩
theorem Pc.imp {P:Program} {f:FuncId} {args:List AV} {p q:AV→Prop} (h:Pc P f args p) (hpq:∀ r,p r→q r):Pc P f args q:=by
 refine ⟨h.1,fun hh w vs h2 h3=>(h.2 hh w vs h2 h3).mono ?_⟩
 rintro en w' ⟨v,r,h',e,hp,rest⟩
 exact ⟨v,r,h',e,hpq r hp,rest⟩
theorem CtH.nil3 {P:Program} {g:Std} {f:FuncId} {a b:AV} {es:Nat} {r:List AV} {s:List Blk} {post:AV→List Blk→Prop} (hc:CtH P g f (a :: b :: .fz es [] :: r) s post):CtH P g f (a :: b :: .raw (.slice none 0 0) :: r) s post:=by
 refine ⟨hc.1,fun h ρ w vs hg m rl=>hc.2 h ρ w vs hg m ?_⟩
 cases rl with
 | cons r1 rl =>
  cases rl with
  | cons r2 rl =>
   cases rl with
   | cons r3 rl =>
    refine .cons r1 (.cons r2 (.cons ?_ rl))
    cases r3 with
    | leaf l=>exact l.2.elim
    | raw v=>exact .fznil es
structure SpS (T:List Blk) (p n:Nat) (so:Option (Nat × Nat)):Prop where
 ord:∃ l:List Int,T[p]? = some (.arr 1 (l.map (.int .i64)))∧l.length=n
 sh:∀ z,so=some z→∃ R:List Shr,T[z.1]? = some (.arr 2 (R.map shRow))∧R.length=z.2∧∀ q ∈ R,q.l.length ≤ 12∧∃ l:List Nd,T[q.id]? = some (.arr 4 (l.map ndA))∧l.length=q.l.length
theorem SpS.app {T p n so} (h:SpS T p n so) (U:List Blk):SpS (T++U) p n so:=by
 obtain ⟨l,h1,h2⟩:=h.ord
 refine ⟨⟨l,tb_app h1 U,h2⟩,fun z hz=>?_⟩
 obtain ⟨R,h3,h4,h5⟩:=h.sh z hz
 refine ⟨R,tb_app h3 U,h4,fun q hq=>⟨(h5 q hq).1,?_⟩⟩
 obtain ⟨l,h6,h7⟩:=(h5 q hq).2
 exact ⟨l,tb_app h6 U,h7⟩
theorem SpS.need {T p n so} (h:SpS T p n so) {j:Nat} {a b:List Nd} (hj:T[j]? = some (.arr 4 (a.map ndA))) (hb:b.length=a.length):SpS (T.set j (.arr 4 (b.map ndA))) p n so:=by
 obtain ⟨l,h1,h2⟩:=h.ord
 refine ⟨⟨l,tb_set h1 (tb_ne hj h1 (by simp)) _,h2⟩,fun z hz=>?_⟩
 obtain ⟨R,h3,h4,h5⟩:=h.sh z hz
 refine ⟨R,tb_set h3 (tb_ne hj h3 (by simp)) _,h4,fun q hq=>⟨(h5 q hq).1,?_⟩⟩
 obtain ⟨l,h6,h7⟩:=(h5 q hq).2
 by_cases e:j=q.id
 ·subst e
  rw [h6] at hj
  have hll:=congrArg (fun b=>match b with | some (Blk.arr _ r)=>r.length | _=>0) hj
  simp only [List.length_map] at hll
  exact ⟨b,tb_self (tb_lt h6) _,by omega⟩
 ·exact ⟨l,tb_set h6 e _,h7⟩
def shF (q:List UInt8 × List Nd):AV:=.agg [.str q.1,.fz 4 (q.2.map ndA)]
theorem shF_get (Y:List (List UInt8 × List Nd)) (i:Nat) (h:i < Y.length):(Y.map shF).getD i .any=.agg [.str Y[i].1,.fz 4 (Y[i].2.map ndA)]:=by simp [List.getD,h,shF]
theorem bor_nd (s:List Blk) (l:List Nd):(l.map ndA).map (borC 0 s)=l.map ndA:=by
 rw [List.map_map]
 exact List.map_congr_left fun c _=>rfl
theorem bor_sh {T0 s:List Blk} {o:Nat} {R:List Shr} (h:OI T0 s o R):borC 2 s (.sl o 0 R.length R.length)=.fz 2 ((R.map fun q=>(q.no,q.l)).map shF):=by
 have e:borC 2 s (.sl o 0 R.length R.length)=bor 2 s (.sl o 0 R.length R.length):=rfl
 rw [e,bor_sl,gd_of h.out]
 simp only [List.length_map,Nat.zero_add,decide_true,Nat.le_refl,Bool.and_self,cond_true,List.drop_zero]
 rw [List.take_of_length_le (by simp),List.map_map,List.map_map]
 congr 1
 refine List.map_congr_left fun q hq=>?_
 have h2:=gd_of (h.rows q hq).2
 have e2:(borC 1 s ∘ shRow) q=.agg [.str q.no,bor 1 s (.sl q.id 0 q.l.length q.l.length)]:=rfl
 rw [e2,bor_sl,h2]
 simp only [List.length_map,Nat.zero_add,decide_true,Nat.le_refl,Bool.and_self,cond_true,List.drop_zero]
 rw [List.take_of_length_le (by simp),bor_nd]
 rfl
def SheetsF (x:Sr) (rs:List Ru) (ts:List Tg) (r:AV):Prop :=
 (∃ n:Int,n ≠ 0∧¬ (MnOk rs x∧TagsOk x ts)∧r=.tup [.raw (.slice none 0 0),.int .i64 n]) ∨
 (MnOk rs x∧TagsOk x ts∧∃ Y:List (List UInt8 × List Nd),r=.tup [.fz 2 (Y.map shF),.int .i64 0]∧Y.length=x.scenes.length ∧
  ∀ i (h:i < x.scenes.length) (h2:i < Y.length),Y[i].1=x.scenes[i].no∧NeedsOf ((needA x rs ts ts.length).getD i []) Y[i].2∧Y[i].2.length ≤ 12)
theorem sheetsF_of {x:Sr} {rs:List Ru} {ts:List Tg} {r:AV} {s:List Blk} (h:SheetsR x rs ts [] r s):SheetsF x rs ts (borV 2 s r):=by
 rcases h with ⟨n,h1,h2,rfl,_⟩ | ⟨h1,h2,o,R,rfl,h3,_,h4,h5⟩
 ·exact .inl ⟨n,h1,h2,rfl⟩
 ·refine .inr ⟨h1,h2,R.map fun q=>(q.no,q.l),?_,by simp [h4],fun i h hh=>?_⟩
  ·have e:borV 2 s (.tup [.sl o 0 R.length R.length,.int .i64 0])=.tup [borC 2 s (.sl o 0 R.length R.length),.int .i64 0]:=rfl
   rw [e,bor_sh h3]
  ·have:=h5 i h (by omega)
   simpa using this
theorem idx_tag (p:Tg→Bool) (ts:List Tg):(idxP p ts=-1∧ts.find? p=none)∨∃ k,∃ (h:k < ts.length),idxP p ts=((k:Nat):Int)∧ts.find? p=some ts[k]:=by
 cases hq:ts.findIdx? p with
 | none =>
  refine .inl ⟨by simp [idxP,hq],?_⟩
  rw [List.findIdx?_eq_none_iff] at hq
  rw [List.find?_eq_none]
  intro y hy
  simp [hq y hy]
 | some k =>
  obtain ⟨h1,h2,h3⟩:=List.findIdx?_eq_some_iff_getElem.1 hq
  refine .inr ⟨k,h1,by simp [idxP,hq],?_⟩
  rw [List.find?_eq_some_iff_getElem]
  exact ⟨h2,k,h1,rfl,fun j hj=>by simpa using h3 j hj⟩
theorem tgF_ok (L:List Int) (k:Int) (x:Sr):(tgF L k x).1.el.name.length < 1000000:=by
 have:=elF_ok L (noF L k x).2
 unfold tgF
 simp only
 omega
theorem tgRun_ok (L:List Int) (x:Sr) (k:Int):∀ n,∀ t ∈ (tgRun L x k n).1,t.el.name.length < 1000000
 | 0,t,h=>by simp [tgRun] at h
 | n+1,t,h=>by
  rw [tgRun] at h
  rcases List.mem_append.1 h with h | h
  ·exact tgRun_ok L x k n t h
  ·rw [List.mem_singleton.1 h]
   exact tgF_ok L _ x
theorem tagsF_ok (L:List Int) (k:Int) (x:Sr):(tagsF L k x).1.length ≤ 4∧∀ t ∈ (tagsF L k x).1,t.el.name.length < 1000000:=by
 have hb:=nx_bd L k 5 (by decide)
 have hr:=tgRun_bd L x (k+1) (nx L k 5).toNat
 unfold tagsF
 exact ⟨by omega,tgRun_ok L x _ _⟩
theorem concatNdF_pc (a b:List Nd) (ha:a.length < 100000) (hb:b.length < 100000):Pc Tryz.prog 13 [.fz 1 [.fz 4 (a.map ndA),.fz 4 (b.map ndA)]] (· = .fz 4 ((a++b).map ndA)):=by
 have h:=Pc.ofOwn 1 (concatNd_ct a b ha hb [])
 refine Pc.imp h ?_
 rintro r ⟨r',s,⟨rfl,rfl⟩,rfl⟩
 change bor 1 (([]:List Blk)++[Blk.arr 4 ((a++b).map ndA)]) (.sl ([]:List Blk).length 0 (a++b).length (a++b).length)=_
 rw [bor_sl]
 simp only [List.nil_append,List.length_nil,List.getD_cons_zero,List.length_map,Nat.zero_add,decide_true,Nat.le_refl,Bool.and_self,cond_true,List.drop_zero]
 rw [List.take_of_length_le (by simp),bor_nd]
set_option maxHeartbeats 16000000 in
theorem handsOutrank_pch {S:Std} (hS:LibOk S) (L:List Int):PcH Tryz.prog S 3 [.fz 1 (L.map (.int .i64))] (· = .bool true):=by
 have hst:=storyX_mch hS L 0 (by omega) (by omega)
 obtain ⟨hd,k1,k2⟩:=storyF_ok L 0
 have hx:=story_ok hd
 have ht:=tagsTrue_pch hS
 generalize storyF L 0=z at *
 obtain ⟨x0,kk⟩:=z
 simp only at hst hd k1 k2 hx
 generalize numR x0=x at *
 have hxl:=hx.len
 have hru:=rulesF_mch hS L kk (by omega) (by omega)
 obtain ⟨r1,r2,r3,r4⟩:=rulesF_ok L kk
 generalize rulesF L kk=z at *
 obtain ⟨rs,kr⟩:=z
 simp only at r1 r2 r3 r4 hru
 have htg:=tagsF_mc L kr x (by omega) (by omega) (by omega)
 have htb:=tagsF_ok L kr x
 generalize tagsF L kr x=z at *
 obtain ⟨ts,kf⟩:=z
 simp only at htg htb
 obtain ⟨t1,t2⟩:=htb
 have hs1:=PcH.imp (q:=SheetsF x rs ts) (PcH.ofOwn 2 (sheets_cth hS x hx rs r1 r2 ts t1 t2 [] rfl)) (by
  rintro r ⟨r',s,h,rfl⟩
  exact sheetsF_of h)
 have hs2:=PcH.imp (q:=SheetsF x rs []) (PcH.ofOwn 2 (CtH.nil3 (sheets_cth hS x hx rs r1 r2 [] (by simp) (by simp) [] rfl))) (by
  rintro r ⟨r',s,h,rfl⟩
  exact sheetsF_of h)
 simp only [srA] at hst htg hs1 hs2
 refine pch_intro (cth_intro Tryz.func3 rfl Tryz.ntmps3 hB3 (by simp) fun h ρ w hg=>goF (N:=118) Tryz.ntmps3 300 ?_)
 simp only [go_sem]
 refine mcallH hg (agg:=str L 0) hst rfl rfl (id:=0) rfl (N:=118) Tryz.ntmps3 rfl ?_
 rintro _ _ ⟨rfl,rfl⟩
 refine goF (N:=118) Tryz.ntmps3 300 ?_
 simp only [go_sem]
 repeat refine And.intro (by first | omega | rfl | kernel_rfl | exact .inl rfl | exact .inl trivial | (simp; done) | (simp; omega)) ?_
 refine adrawI [1,4] 0 [] mixed (by decide) (N:=118) Tryz.ntmps3 (by decide) 100 ?_
 simp only [go_sem]
 repeat refine And.intro (by first | omega | rfl | kernel_rfl | exact .inl rfl | exact .inl trivial | (simp; done) | (simp; omega)) ?_
 refine icallH hg hru rfl rfl rfl ⟨_,_,rfl,rfl⟩ ?_
 rintro _ _ ⟨rfl,rfl⟩
 simp only [go_sem]
 repeat refine And.intro (by first | omega | rfl | kernel_rfl | exact .inl rfl | exact .inl trivial | (simp; done) | (simp; omega)) ?_
 refine icall htg rfl rfl rfl ⟨_,_,rfl,rfl⟩ ?_
 rintro _ _ ⟨rfl,rfl⟩
 simp only [go_sem]
 repeat refine And.intro (by first | omega | rfl | kernel_rfl | exact .inl rfl | exact .inl trivial | (simp; done) | (simp; omega)) ?_
 refine goB (N:=118) Tryz.ntmps3 300 ?_
 simp only [go_sem]
 refine pcallH hg (hs1) rfl (N:=118) Tryz.ntmps3 rfl ?_
 rintro _ (⟨n,hn,_,rfl⟩ | ⟨hmn,htok,Y,rfl,hYl,hY⟩)
 ·have dn:(n != 0)=true:=by simpa using hn
  refine goB (N:=118) Tryz.ntmps3 300 ?_
  simp only [go_sem,dn]
  refine pcallH1 hg (ht) rfl (N:=118) Tryz.ntmps3 rfl (goB (N:=118) Tryz.ntmps3 300 ?_)
  simp only [go_sem]
  exact aret [2] rfl ⟨rfl,rfl⟩
 refine goB (N:=118) Tryz.ntmps3 300 ?_
 simp only [go_sem]
 refine pcallH hg (hs2) rfl (N:=118) Tryz.ntmps3 rfl ?_
 rintro _ (⟨n,_,hn,_⟩ | ⟨_,_,Z,rfl,hZl,hZ⟩)
 ·exact absurd ⟨hmn,tagsOk_nil x⟩ hn
 have dl:((Y.length:Int) != (Z.length:Int))=false:=by simp [hYl,hZl]
 refine goB (N:=118) Tryz.ntmps3 300 ?_
 simp only [go_sem,dl,List.length_map]
 repeat refine And.intro (by first | omega | rfl | kernel_rfl | exact .inl rfl | exact .inl trivial | (simp; done) | (simp; omega)) ?_
 refine aloop (ι:=Nat) (fun i=>Y.length - i) (fun i=>[(55,.int .i64 i),(54,.int .i64 Y.length),(53,.fz 2 (Y.map shF)),(9,.fz 2 (Z.map shF)),(7,.fz 2 (Y.map shF)),(6,.ptr 2 1 0 0),(5,.fz 5 (rs.map ruA)),(4,.ptr 1 1 0 0),(3,.ptr 0 1 0 0)]) (fun i=>[.arr 2 [str L kf],.arr 2 [.agg [.str x.title,.fz 5 (x.scenes.map scA)]],.arr 1 [.fz 4 (ts.map tgA)]]) (fun i=>i ≤ Y.length) 0 (Nat.zero_le _) ?_ ?_
 ·refine Shift.weakS ?_ rfl
  simp only [wk,go_sem,List.length_map]
  try rfl
 intro i g1 J hJ
 by_cases gi:i < Y.length
 rotate_left
 ·have di:decide ((i:Int) < (Y.length:Int))=false:=by simp; omega
  clear hJ
  refine goB (N:=118) Tryz.ntmps3 300 ?_
  simp only [go_sem,di]
  refine pcallH1 hg (ht) rfl (N:=118) Tryz.ntmps3 rfl (goB (N:=118) Tryz.ntmps3 300 ?_)
  simp only [go_sem]
  exact aret [2] rfl ⟨rfl,rfl⟩
 have di:decide ((i:Int) < (Y.length:Int))=true:=by simp; omega
 have p1:=shF_get Y i gi
 have p2:=shF_get Z i (by omega)
 obtain ⟨y1,y2,y3⟩:=hY i (by omega) gi
 obtain ⟨_,z2,z3⟩:=hZ i (by omega) (by omega)
 have hil:i < x.scenes.length:=by omega
 have hlawN:=law_none (rs:=rs) hx htok hil y2 z2
 have hlawS:=fun e t=>law_some (rs:=rs) hx htok hil y2 e (t:=t)
 rw [← y1] at hlawN hlawS
 have hfin:=hJ (i+1) (by omega) (by omega)
 clear hJ y2 z2 y1
 generalize Y[i]=q at *
 obtain ⟨no,A⟩:=q
 simp only at p1 y3 hlawN hlawS
 have hZi:i < Z.length:=by omega
 generalize Z[i]=q2 at *
 obtain ⟨no2,B⟩:=q2
 simp only at p2 z3 hlawN
 have hcc:=concatNdF_pc A B (by omega) (by omega)
 have hCl:(A++B).length ≤ 24:=by simp; omega
 obtain ⟨C,hC⟩:∃ C,C=A++B:=⟨_,rfl⟩
 rw [← hC] at hCl hcc
 refine goB (N:=118) Tryz.ntmps3 300 ?_
 simp only [go_sem,di,p1,List.length_map]
 repeat refine And.intro (by first | omega | rfl | kernel_rfl | exact .inl rfl | exact .inl trivial | (simp; done) | (simp; omega)) ?_
 refine adraw [.fz 4 (C.map ndA)] mixed (by decide) (N:=118) Tryz.ntmps3 (by decide) 100 ?_
 simp only [go_sem,p2,List.length_map]
 repeat refine And.intro (by first | exact hcc.at | omega | rfl | kernel_rfl | exact .inl rfl | exact .inl trivial | (simp; done) | (simp; omega)) ?_
 refine goB (N:=118) Tryz.ntmps3 300 ?_
 simp only [go_sem,List.length_map]
 refine aloop (ι:=Nat) (fun k=>C.length - k) (fun k=>[(70,.int .i64 k),(69,.int .i64 C.length),(68,.fz 4 (C.map ndA)),(12,.ptr 3 1 0 0),(11,.int .i64 i),(55,.int .i64 i),(54,.int .i64 Y.length),(53,.fz 2 (Y.map shF)),(9,.fz 2 (Z.map shF)),(7,.fz 2 (Y.map shF)),(6,.ptr 2 1 0 0),(5,.fz 5 (rs.map ruA)),(4,.ptr 1 1 0 0),(3,.ptr 0 1 0 0)]) (fun k=>[.arr 2 [str L kf],.arr 2 [.agg [.str x.title,.fz 5 (x.scenes.map scA)]],.arr 1 [.fz 4 (ts.map tgA)],.arr 2 [.agg [.str no,.fz 4 (A.map ndA)]]]) (fun k=>k ≤ C.length) 0 (Nat.zero_le _) ?_ ?_
 ·refine Shift.weakS ?_ rfl
  simp only [wk,go_sem,List.length_map]
  try rfl
 intro k f1 J hJ
 by_cases gk:k < C.length
 rotate_left
 ·have dk:decide ((k:Int) < (C.length:Int))=false:=by simp; omega
  clear hJ
  refine goB (N:=118) Tryz.ntmps3 300 ?_
  simp only [go_sem,dk]
  repeat refine And.intro (by first | omega | rfl | kernel_rfl | exact .inl rfl | exact .inl trivial | (simp; done) | (simp; omega)) ?_
  rw [show (i:Int)+1=((i+1:Nat):Int) by omega]
  refine ainv hfin ?_
  refine Shift.low 3 (by simp) (by simp) ?_ ?_
  ·simp only [List.take_succ_cons,List.take_zero,List.all_cons,List.all_nil,Bool.and_true,Bool.and_eq_true]
   exact ⟨low_all (by simp [flat,cellsOf,str,Av.frozen]),low_all (by simp [flat,cellsOf,Av.frozen]),low_all (by simp [flat,cellsOf,Av.frozen])⟩
  ·simp only [wkl,lowV,lowC,Av.get,go_sem]
   try simp
 have dk:decide ((k:Int) < (C.length:Int))=true:=by simp; omega
 have p3:=ndA_get C k gk
 have hfin2:=hJ (k+1) (by omega) (by omega)
 clear hJ
 generalize C[k]=m at *
 have hidx:=idxTg_pc 15 [.pin 2 [.agg [.str no,.fz 4 (A.map ndA)]] 0 0,.pin 4 [ndA m] 0 0] rfl (fun t=>t.scene == no && t.el == m.el) ts (by omega) (fun t _=>hr1_pc t no _ m)
 have hw:=hasNd_pc B ⟨m.el,m.n,false⟩ (by omega)
 have hh:=hasNd_pc A ⟨m.el,m.n,decide (idxP (fun t=>t.scene == no && t.el == m.el) ts ≥ 0)⟩ (by omega)
 have hcase:=idx_tag (fun t=>t.scene == no && t.el == m.el) ts
 have hN:=hlawN m.el m.n
 have hSm:=hlawS m.el
 unfold tagAt at hN hSm
 generalize hv:idxP (fun t=>t.scene == no && t.el == m.el) ts=v at *
 have hbor1:=Ct.borrowF (P:=Tryz.prog) (f:=14) (args:=[.fz 4 (ts.map tgA),.fn (.func 15) [.ptr 3 1 0 0,.ptr 4 1 0 0]]) 1 [.arr 2 [str L kf],.arr 2 [.agg [.str x.title,.fz 5 (x.scenes.map scA)]],.arr 1 [.fz 4 (ts.map tgA)],.arr 2 [.agg [.str no,.fz 4 (A.map ndA)]],.arr 4 [ndA m]] (post:=(· = .int .i64 v)) hidx (by rintro r rfl; rfl)
 obtain ⟨⟨mk,mn⟩,mc,mh⟩:=m
 simp only [ndA] at p3 hbor1 hw hh
 rcases hcase with ⟨hv1,hf⟩ | ⟨k2,hk2,hv1,hf⟩
 ·subst hv1
  have hiff:=hN hf
  have d2:decide ((-1:Int) < 0)=true:=by decide
  have d3:decide ((-1:Int) ≥ 0)=false:=by decide
  have e2:B.any (eqNd ⟨⟨mk,mn⟩,mc,false⟩)=A.any (eqNd ⟨⟨mk,mn⟩,mc,false⟩):=by
   rw [Bool.eq_iff_iff,any_eqNd,any_eqNd]
   exact hiff
  rw [d3] at hh
  rw [e2] at hw
  clear hiff hN hSm hlawN hlawS e2
  generalize A.any (eqNd ⟨⟨mk,mn⟩,mc,false⟩)=b0 at *
  cases b0 with
  | true =>
   refine goB (N:=118) Tryz.ntmps3 300 ?_
   simp only [go_sem,dk,p3,List.length_map]
   repeat refine And.intro (by first | omega | rfl | kernel_rfl | exact .inl rfl | exact .inl trivial | (simp; done) | (simp; omega)) ?_
   refine acall (hbor1) (N:=118) Tryz.ntmps3 rfl ?_
   rintro _ _ ⟨rfl,rfl⟩
   refine goB (N:=118) Tryz.ntmps3 300 ?_
   simp only [go_sem]
   repeat refine And.intro (by first | omega | rfl | kernel_rfl | exact .inl rfl | exact .inl trivial | (simp; done) | (simp; omega)) ?_
   refine adraw [.bool true] mixed (by decide) (N:=118) Tryz.ntmps3 (by decide) 100 ?_
   simp only [go_sem,p2,List.length_map]
   repeat refine And.intro (by first | exact hw.at | omega | rfl | kernel_rfl | exact .inl rfl | exact .inl trivial | (simp; done) | (simp; omega)) ?_
   refine goB (N:=118) Tryz.ntmps3 300 ?_
   simp only [go_sem,d3]
   repeat refine And.intro (by first | omega | rfl | kernel_rfl | exact .inl rfl | exact .inl trivial | (simp; done) | (simp; omega)) ?_
   refine pcall1 (hh) rfl (N:=118) Tryz.ntmps3 rfl (goB (N:=118) Tryz.ntmps3 300 ?_)
   simp only [go_sem,d2,d3]
   repeat refine And.intro (by first | omega | rfl | kernel_rfl | exact .inl rfl | exact .inl trivial | (simp; done) | (simp; omega)) ?_
   rw [show (k:Int)+1=((k+1:Nat):Int) by omega]
   refine ainv hfin2 ?_
   refine Shift.low 4 (by simp) (by simp) ?_ ?_
   ·simp only [List.take_succ_cons,List.take_zero,List.all_cons,List.all_nil,Bool.and_true,Bool.and_eq_true]
    exact ⟨low_all (by simp [flat,cellsOf,str,Av.frozen]),low_all (by simp [flat,cellsOf,Av.frozen]),low_all (by simp [flat,cellsOf,Av.frozen]),low_all (by simp [flat,cellsOf,Av.frozen])⟩
   ·simp only [wkl,lowV,lowC,Av.get,go_sem]
    try simp
  | false =>
   refine goB (N:=118) Tryz.ntmps3 300 ?_
   simp only [go_sem,dk,p3,List.length_map]
   repeat refine And.intro (by first | omega | rfl | kernel_rfl | exact .inl rfl | exact .inl trivial | (simp; done) | (simp; omega)) ?_
   refine acall (hbor1) (N:=118) Tryz.ntmps3 rfl ?_
   rintro _ _ ⟨rfl,rfl⟩
   refine goB (N:=118) Tryz.ntmps3 300 ?_
   simp only [go_sem]
   repeat refine And.intro (by first | omega | rfl | kernel_rfl | exact .inl rfl | exact .inl trivial | (simp; done) | (simp; omega)) ?_
   refine adraw [.bool false] mixed (by decide) (N:=118) Tryz.ntmps3 (by decide) 100 ?_
   simp only [go_sem,p2,List.length_map]
   repeat refine And.intro (by first | exact hw.at | omega | rfl | kernel_rfl | exact .inl rfl | exact .inl trivial | (simp; done) | (simp; omega)) ?_
   refine goB (N:=118) Tryz.ntmps3 300 ?_
   simp only [go_sem,d3]
   repeat refine And.intro (by first | omega | rfl | kernel_rfl | exact .inl rfl | exact .inl trivial | (simp; done) | (simp; omega)) ?_
   refine pcall1 (hh) rfl (N:=118) Tryz.ntmps3 rfl (goB (N:=118) Tryz.ntmps3 300 ?_)
   simp only [go_sem,d2,d3]
   repeat refine And.intro (by first | omega | rfl | kernel_rfl | exact .inl rfl | exact .inl trivial | (simp; done) | (simp; omega)) ?_
   rw [show (k:Int)+1=((k+1:Nat):Int) by omega]
   refine ainv hfin2 ?_
   refine Shift.low 4 (by simp) (by simp) ?_ ?_
   ·simp only [List.take_succ_cons,List.take_zero,List.all_cons,List.all_nil,Bool.and_true,Bool.and_eq_true]
    exact ⟨low_all (by simp [flat,cellsOf,str,Av.frozen]),low_all (by simp [flat,cellsOf,Av.frozen]),low_all (by simp [flat,cellsOf,Av.frozen]),low_all (by simp [flat,cellsOf,Av.frozen])⟩
   ·simp only [wkl,lowV,lowC,Av.get,go_sem]
    try simp
 ·subst hv1
  have hall:=hSm ts[k2] hf
  have d2:decide ((k2:Int) < 0)=false:=by simp
  have d3:decide ((k2:Int) ≥ 0)=true:=by simp
  have hany:=anyNd_pc 18 [.pin 4 [ndA ⟨⟨mk,mn⟩,mc,mh⟩] 0 0,.pin 1 [.fz 4 (ts.map tgA)] 0 0,.pin 1 [.int .i64 k2] 0 0] rfl (fun z=>z.el == (⟨mk,mn⟩:El) && (z.n != ts[k2].n || !z.hand)) A (by omega) (fun z _=>hr2_pc z ⟨⟨mk,mn⟩,mc,mh⟩ ts k2 hk2)
  have hf0:A.any (fun z=>z.el == (⟨mk,mn⟩:El) && (z.n != ts[k2].n || !z.hand))=false:=by
   rw [List.any_eq_false]
   intro z hz
   by_cases he:z.el=⟨mk,mn⟩
   ·obtain ⟨h1,h2⟩:=hall z hz he
    simp [h1,h2]
   ·simp [he]
  rw [hf0] at hany
  have hbor2:=Ct.borrowF (P:=Tryz.prog) (f:=17) (args:=[.fz 4 (A.map ndA),.fn (.func 18) [.ptr 4 1 0 0,.ptr 2 1 0 0,.ptr 5 1 0 0]]) 1 [.arr 2 [str L kf],.arr 2 [.agg [.str x.title,.fz 5 (x.scenes.map scA)]],.arr 1 [.fz 4 (ts.map tgA)],.arr 2 [.agg [.str no,.fz 4 (A.map ndA)]],.arr 4 [ndA ⟨⟨mk,mn⟩,mc,mh⟩],.arr 1 [.int .i64 k2]] (post:=(· = .bool false)) hany (by rintro r rfl; rfl)
  simp only [ndA] at hbor2
  rw [d3] at hh
  clear hall hN hSm hlawN hlawS hf0 hany
  generalize B.any (eqNd ⟨⟨mk,mn⟩,mc,false⟩)=b1 at *
  generalize A.any (eqNd ⟨⟨mk,mn⟩,mc,true⟩)=b2 at *
  refine goB (N:=118) Tryz.ntmps3 300 ?_
  simp only [go_sem,dk,p3,List.length_map]
  repeat refine And.intro (by first | omega | rfl | kernel_rfl | exact .inl rfl | exact .inl trivial | (simp; done) | (simp; omega)) ?_
  refine acall (hbor1) (N:=118) Tryz.ntmps3 rfl ?_
  rintro _ _ ⟨rfl,rfl⟩
  refine goB (N:=118) Tryz.ntmps3 300 ?_
  simp only [go_sem]
  repeat refine And.intro (by first | omega | rfl | kernel_rfl | exact .inl rfl | exact .inl trivial | (simp; done) | (simp; omega)) ?_
  refine adraw [.bool b1] mixed (by decide) (N:=118) Tryz.ntmps3 (by decide) 100 ?_
  simp only [go_sem,p2,List.length_map]
  repeat refine And.intro (by first | exact hw.at | omega | rfl | kernel_rfl | exact .inl rfl | exact .inl trivial | (simp; done) | (simp; omega)) ?_
  refine goB (N:=118) Tryz.ntmps3 300 ?_
  simp only [go_sem,d3]
  repeat refine And.intro (by first | omega | rfl | kernel_rfl | exact .inl rfl | exact .inl trivial | (simp; done) | (simp; omega)) ?_
  refine pcall1 (hh) rfl (N:=118) Tryz.ntmps3 rfl (goB (N:=118) Tryz.ntmps3 300 ?_)
  simp only [go_sem,d2,d3]
  repeat refine And.intro (by first | omega | rfl | kernel_rfl | exact .inl rfl | exact .inl trivial | (simp; done) | (simp; omega)) ?_
  refine acall (hbor2) (N:=118) Tryz.ntmps3 rfl ?_
  rintro _ _ ⟨rfl,rfl⟩
  refine goB (N:=118) Tryz.ntmps3 300 ?_
  simp only [go_sem]
  repeat refine And.intro (by first | omega | rfl | kernel_rfl | exact .inl rfl | exact .inl trivial | (simp; done) | (simp; omega)) ?_
  rw [show (k:Int)+1=((k+1:Nat):Int) by omega]
  refine ainv hfin2 ?_
  refine Shift.low 4 (by simp) (by simp) ?_ ?_
  ·simp only [List.take_succ_cons,List.take_zero,List.all_cons,List.all_nil,Bool.and_true,Bool.and_eq_true]
   exact ⟨low_all (by simp [flat,cellsOf,str,Av.frozen]),low_all (by simp [flat,cellsOf,Av.frozen]),low_all (by simp [flat,cellsOf,Av.frozen]),low_all (by simp [flat,cellsOf,Av.frozen])⟩
  ·simp only [wkl,lowV,lowC,Av.get,go_sem]
   try simp
end Go.Proofs.YtnfkjpihaficbaaGreatDoor
