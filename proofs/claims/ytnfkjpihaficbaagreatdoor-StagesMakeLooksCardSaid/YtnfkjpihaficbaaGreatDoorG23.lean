/- The reference's faults of a story. Own work of this seat. -/
import Derived.Test.YtnfkjpihaficbaaGreatDoorG22
set_option maxRecDepth 100000
set_option linter.unusedSimpArgs false
set_option linter.unusedVariables false
namespace Go.Proofs
open Go.Shelf
theorem Tryz.Builder_Extra_156:Builder.Extra Tryz.prog Tryz.lays156_ren:={
 sizeBuilder:=by kernel_rfl
 liesBuilder:=by kernel_rfl
 t5:=Tryz.underlying5
 a5:=Tryz.isAgg5
 z5:=Tryz.sizeOf5
 v5:=Tryz.zeroValue5
 infoByte:=by kernel_rfl
 cellsByte:=by kernel_rfl
 sizeByte:=by kernel_rfl
 neB5:=by decide }
end Go.Proofs
namespace Go.Proofs.YtnfkjpihaficbaaGreatDoor
open Go Go.Av Go.RowKit
theorem h_str {h:Mem} {v:Value} {s:List UInt8} (r:RV h Lf0 true v (.str s)):v=.string ⟨s.toArray⟩:=by cases r with | str=>rfl
structure LibR (S:Std):Prop where
 ok:LibOk S
 spc:∃ t z,S 0=some (.cells (Lib.asciiSpaceTab.map fun z=>Value.int .u8 z).toArray t z)
theorem join_len {sep:List UInt8} {m:Nat}:∀ {ls:List (List UInt8)},(∀ x ∈ ls,x.length ≤ m)→(Lib.join ls sep).length ≤ ls.length * (m+sep.length)
 | [],_=>by simp [Lib.join]
 | x :: r,h=>by
  rw [Lib.join_cons,List.length_append]
  have h1:=h x (by simp)
  have h2:(Lib.joinTail sep r).length ≤ r.length * (m+sep.length):=by
   unfold Lib.joinTail
   clear h1
   have hr:∀ y ∈ r,y.length ≤ m:=fun y hy=>h y (List.mem_cons_of_mem _ hy)
   clear h
   induction r with
   | nil=>simp
   | cons y r ih =>
    have:=ih fun z hz=>hr z (List.mem_cons_of_mem _ hz)
    have h3:=hr y (by simp)
    simp only [List.map_cons,List.flatten_cons,List.length_append,List.length_cons,Nat.add_mul,Nat.one_mul] at this ⊢
    omega
  rw [List.length_cons,Nat.add_mul,Nat.one_mul]
  omega
theorem fieldsGo_each:∀ (s cur:List UInt8),∀ x ∈ Lib.fieldsGo cur s,x.length ≤ cur.length+s.length
 | [],cur,x,hx=>by
  simp only [Lib.fieldsGo] at hx
  split at hx
  ·cases hx
  ·rw [List.mem_singleton.1 hx]; simp
 | b :: l,cur,x,hx=>by
  simp only [Lib.fieldsGo] at hx
  split at hx
  ·split at hx
   ·have:=fieldsGo_each l [] x hx
    simp only [List.length_cons,List.length_nil] at this ⊢
    omega
   ·rcases List.mem_cons.1 hx with rfl | hx
    ·simp
    ·have:=fieldsGo_each l [] x hx
     simp only [List.length_cons,List.length_nil] at this ⊢
     omega
  ·have:=fieldsGo_each l _ x hx
   simp only [List.length_cons,List.length_append,List.length_nil] at this ⊢
   omega
theorem cntF_le:∀ (l:List UInt8) (ws:Bool),Lib.cntF ws l ≤ l.length
 | [],_=>by simp [Lib.cntF]
 | b :: l,ws=>by
  have:=cntF_le l (Lib.isSp b)
  simp only [Lib.cntF,List.length_cons]
  split <;> omega
theorem fields_bd (s:List UInt8):(Lib.fields s).length ≤ s.length∧∀ x ∈ Lib.fields s,x.length ≤ s.length:=by
 refine ⟨by rw [Lib.fields_length]; exact cntF_le _ _,fun x hx=>?_⟩
 have:=fieldsGo_each s [] x hx
 simpa using this
theorem fields_pch {S:Std} (hS:LibR S) (s:List UInt8) (hs:s.length < 1000000) (ha:asciiL s):PcH Tryz.prog S 130 [.str s] (· = .fz 1 (strs (Lib.fields s))):=by
 refine ⟨hB130,fun h w vs' hg hm hv=>?_⟩
 have:=one_str s h vs' hv
 subst this
 obtain ⟨t,z,hcell⟩:=hS.spc
 have htab:Lib.TabIs Tryz.prog w "strings.asciiSpace" .u8 Lib.asciiSpaceTab:=by
  have h1:Tryz.prog.globalNamed "strings.asciiSpace" = some 0:=by kernel_rfl
  have h2:=hg _ _ hcell
  unfold Lib.TabIs World.var?
  rw [h1]
  simp only [Option.bind_some,h2]
 refine (Any.strings_Fields Tryz.lays157 (by kernel_rfl) (by kernel_rfl) ⟨s.toArray⟩ w (show s.length < _ by omega) (ascii_at ha) htab).mono ?_
 rintro e w' ⟨rfl,rfl⟩
 have hdl:(⟨s.toArray⟩:ByteArray).data.toList=s:=rfl
 rw [hdl]
 generalize Lib.fields s=sl
 have hval:(sl.map fun l=>Value.string ⟨l.toArray⟩)=sl.map sval:=rfl
 rw [hval]
 have h1:∀ v ∈ sl.map sval,v.oneCell'=true:=by intro v hv; obtain ⟨x,_,rfl⟩:=List.mem_map.1 hv; rfl
 have hmine:Mine h (fun _=>none) [] w:=⟨hm,fun id blk e=>by simp at e,fun _ _=>rfl,fun i j g t t' e=>by simp at e,fun i g t e=>by simp at e⟩
 obtain ⟨m2,l2⟩:=hmine.freezeNew (sl.map sval) 9 h1
 refine ⟨_,_,Mem.add h w.heap.size (sl.map sval),rfl,rfl,m2.mem,l2.hle,fun b o e n=>?_,.alloc w _,?_⟩
 ·rcases l2.hnew b o e n with ⟨j,t,hj⟩ | hs
  ·cases hj
  ·exact hs
 ·have:=RV.fz (h:=Mem.add h w.heap.size (sl.map sval)) (Lf:=Lf0) (fl:=true) w.heap.size 0 sl.length 1 (strs sl) (sl.map sval) ?_ (by simp [cellsOf]) ?_ (by simp)
  ·simpa using this
  ·rw [flat_strs]
   generalize Mem.add h w.heap.size (sl.map sval)=hh
   generalize sl=z
   induction z with
   | nil=>exact .nil
   | cons x z ih=>exact .cons (.str x) ih
  ·intro k v hv
   simp only [Mem.add,Nat.zero_add,if_true]
   exact hv
theorem rl_strsT {h:Mem}:∀ {l:List (List UInt8)} {vs:List Value} {Lf:Value→AV→Prop},RL h Lf true vs (strs l)→vs=l.map sval
 | [],_,_,r=>by cases r; rfl
 | x :: l,_,_,r=>by
  cases r with
  | cons r1 r2 =>
   rw [rl_strsT r2]
   cases r1 with
   | str=>rfl
theorem djoin_pc (ls:List (List UInt8)) (sep:List UInt8) (h1:ls.length ≤ 1000000) (h2:(Lib.join ls sep).length ≤ 140737488355328):Pc Tryz.prog 98 [.fz 1 (strs ls),.str sep] (· = .str (Lib.join ls sep)):=by
 refine ⟨hB98,fun h w vs' hm hv=>?_⟩
 cases hv with
 | cons r1 r=>cases r with
  | cons r2 r =>
   cases r
   rw [h_str r2]
   have hfin:∀ (u:Value),Calls Tryz.prog 98 #[u,.string ⟨sep.toArray⟩] w (fun e w'=>e=.returned (.string ⟨(Lib.join ls sep).toArray⟩)∧Below w.heap.size w w')→Calls Tryz.prog 98 [u,.string ⟨sep.toArray⟩].toArray w fun en w'=>∃ v r h',en=.returned v∧r=.str (Lib.join ls sep)∧(∀ b o v,h' b o=some v→w'.cell? ⟨b,o,none⟩=some v∧v.oneCell'=true)∧(∀ b o v,h b o=some v→h' b o=some v)∧(∀ b o,h b o=none→h' b o ≠ none→w.heap.size ≤ b)∧Same w w'∧RV h' Lf0 true v r:=fun u hc=>by
    refine hc.mono ?_
    rintro e w' ⟨rfl,hs⟩
    have hs:Same w w':=⟨hs.os,hs.tape,⟨hs.output,trivial⟩,hs.size,hs.block⟩
    exact ⟨_,_,h,rfl,rfl,fun b o v e=>⟨hs.cell (hm b o v e).1,(hm b o v e).2⟩,fun _ _ _ x=>x,fun b o e n=>(n e).elim,hs,.str _⟩
   rcases inv_fz (ρ:=fun _=>none) (sto:=[]) (r1.thaw (fun _ _ _ x=>x) (fl:=false)) with ⟨hl,hu⟩ | ⟨b,o,c,vs,hu,q1,q2,q3,q4⟩
   ·have hl:ls=[]:=by simpa using hl
    subst hl hu
    exact hfin _ ((Any.strings_Join_none Tryz.lays156 Tryz.Builder_Extra_156 none 0 ⟨sep.toArray⟩ w).mono fun e w' ⟨he,hw⟩=>⟨he,hw ▸ Below.refl _ _⟩)
   ·subst hu
    rw [flat_strs] at q1
    have hvs:=rl_strsT q1
    rw [List.length_map] at q4 ⊢
    cases hls:ls with
    | nil =>
     rw [← hls]
     have hz:ls.length=0:=by rw [hls]; rfl
     rw [hz]
     refine hfin _ ?_
     rw [hls]
     exact (Any.strings_Join_none Tryz.lays156 Tryz.Builder_Extra_156 (some ⟨b,o,none⟩) c ⟨sep.toArray⟩ w).mono fun e w' ⟨he,hw⟩=>⟨he,hw ▸ Below.refl _ _⟩
    | cons x r =>
     rw [← hls]
     have hcell:∀ (j:Nat) (y:List UInt8),ls[j]? = some y→w.cell? ⟨b,o+j,none⟩=some (sval y):=fun j y hy=>(hm _ _ _ (q3 j (sval y) (by rw [hvs,List.getElem?_map,hy]; rfl))).1
     have hb:b < w.heap.size:=World.block_lt_of_cell? w _ (hcell 0 x (by rw [hls]; rfl))
     have hdl:(ls.map fun s=>(⟨s.toArray⟩:ByteArray)).map (·.data.toList)=ls:=by
      rw [List.map_map]
      exact List.map_id ls
     refine hfin _ ?_
     have hj:=Any.strings_Join Tryz.lays156 Tryz.Builder_Extra_156 b o c (ls.map fun s=>⟨s.toArray⟩) ⟨sep.toArray⟩ w (fun j y hy=>by
      rw [List.getElem?_map] at hy
      cases hq:ls[j]? with
      | none=>rw [hq] at hy; cases hy
      | some z =>
       rw [hq] at hy
       cases hy
       exact hcell j z hq) hb (by rw [List.length_map]; omega) (by rw [List.length_map]; exact q4) (by rw [hdl]; exact h2)
     rw [hdl,List.length_map] at hj
     exact hj
def okR (c:UInt8):Bool:=!decide ((c.toNat:Int) < 32) && !decide ((c.toNat:Int) > 126)
def plainR (s:List UInt8):Bool:=s.all okR && (Lib.join (Lib.fields s) [32] == s)
theorem plainR_pch {S:Std} (hS:LibR S) (s:List UInt8) (hs:s.length < 1000000):PcH Tryz.prog S 76 [.str s] (· = .bool (plainR s)):=by
 refine pch_intro (cth_intro Tryz.func76 rfl Tryz.ntmps76 hB76 (by simp) fun h ρ w hg=>goB (N:=25) Tryz.ntmps76 300 ?_)
 simp only [go_sem]
 refine aloop (ι:=Nat) (fun i=>s.length - i) (fun i=>[(3,.int .i64 i),(0,.str s)]) (fun _=>[]) (fun i=>i ≤ s.length∧(s.take i).all okR=true) 0 ⟨by omega,by simp⟩ ?_ ?_
 ·refine Shift.weak ?_
  simp only [wk,go_sem]
 ·rintro i ⟨g1,g2⟩ J hJ
  by_cases gi:i < s.length
  ·have di:decide ((i:Int) < (s.length:Int))=true:=by simp; omega
   have hx:s.getD i 0=s[i]:=by simp [List.getD,gi]
   have bad:okR s[i]=false→plainR s=false:=fun h=>by simp only [plainR,all_false_at gi h,Bool.false_and]
   have again:okR s[i]=true→(s.take (i+1)).all okR=true:=fun h=>all_take_succ gi g2 h
   unfold okR at bad again
   refine goB (N:=25) Tryz.ntmps76 300 ?_
   cases d1:decide ((s[i].toNat:Int) < 32) with
   | true =>
    simp only [go_sem,di,hx,d1]
    repeat refine And.intro (by first | omega | (simp; done) | (simp; omega)) ?_
    exact aret [2] rfl ⟨by rw [bad (by rw [d1]; rfl)]; rfl,rfl⟩
   | false =>
    cases d2:decide ((s[i].toNat:Int) > 126) with
    | true =>
     simp only [go_sem,di,hx,d1,d2]
     repeat refine And.intro (by first | omega | (simp; done) | (simp; omega)) ?_
     exact aret [2] rfl ⟨by rw [bad (by rw [d1,d2]; rfl)]; rfl,rfl⟩
    | false =>
     simp only [go_sem,di,hx,d1,d2]
     repeat refine And.intro (by first | omega | (simp; done) | (simp; omega)) ?_
     rw [show (i:Int)+1=((i+1:Nat):Int) by omega]
     refine ainv (hJ (i+1) ⟨by omega,again (by rw [d1,d2]; rfl)⟩ (by omega)) (Shift.weak ?_)
     simp only [wk,go_sem]
  ·have di:decide ((i:Int) < (s.length:Int))=false:=by simp; omega
   have hi:i=s.length:=by omega
   rw [hi,List.take_length] at g2
   have hasc:asciiL s:=fun b hb=>by
    have:=List.all_eq_true.1 g2 b hb
    simp only [okR,Bool.and_eq_true,Bool.not_eq_true',decide_eq_false_iff_not] at this
    omega
   have hf:=fields_pch hS s hs hasc
   obtain ⟨b1,b2⟩:=fields_bd s
   have hjl:=join_len (sep:=[32]) (m:=s.length) b2
   have hj:=djoin_pc (Lib.fields s) [32] (by omega) (Nat.le_trans hjl (Nat.le_trans (Nat.mul_le_mul (n₁:=(Lib.fields s).length) (n₂:=1000000) (m₁:=s.length+[32].length) (m₂:=1000001) (by omega) (by simp only [List.length_cons,List.length_nil]; omega)) (by decide)))
   refine goB (N:=25) Tryz.ntmps76 300 ?_
   simp only [go_sem,di]
   refine pcallH1 hg (hf) rfl (N:=25) Tryz.ntmps76 rfl (goB (N:=25) Tryz.ntmps76 300 ?_)
   simp only [go_sem]
   refine pcall1 (hj) rfl (N:=25) Tryz.ntmps76 rfl (goB (N:=25) Tryz.ntmps76 300 ?_)
   simp only [go_sem]
   exact aret [2] rfl ⟨by simp only [resV,Av.get,Av.put,plainR,g2,Bool.true_and,beq_self_eq_true,cond_true],rfl⟩
def madeR (s p:List UInt8):Bool:=Lib.trimS s p == []
theorem madeR_pc (s p:List UInt8) (hs:s.length < 1000000) (hp:p.length < 1000) (h2:asciiL p):Pc Tryz.prog 77 [.str s,.str p] (· = .bool (madeR s p)):=by
 have ht:=trim_pc s p (by omega) (by omega) h2
 refine pc_intro (ct_intro Tryz.func77 rfl Tryz.ntmps77 hB77 (by simp) fun h ρ w=>goB (N:=9) Tryz.ntmps77 300 ?_)
 simp only [go_sem]
 refine pcall1 (ht) rfl (N:=9) Tryz.ntmps77 rfl (goB (N:=9) Tryz.ntmps77 300 ?_)
 simp only [go_sem]
 exact aret [4] rfl ⟨rfl,rfl⟩
def longR (s:List UInt8) (a b:Int):Bool:=decide ((s.length:Int) ≥ a) && decide ((s.length:Int) ≤ b)
theorem longR_pc (s:List UInt8) (a b:Int):Pc Tryz.prog 75 [.str s,.int .i64 a,.int .i64 b] (· = .bool (longR s a b)):=by
 refine pc_intro (ct_intro Tryz.func75 rfl Tryz.ntmps75 hB75 (by simp) fun h ρ w=>goB (N:=17) Tryz.ntmps75 300 ?_)
 cases d1:decide ((s.length:Int) ≥ a) with
 | true =>
  simp only [go_sem,d1]
  exact aret [6] rfl ⟨by simp [resV,Av.get,Av.put,longR,d1],rfl⟩
 | false =>
  simp only [go_sem,d1]
  exact aret [6] rfl ⟨by simp [resV,Av.get,Av.put,longR,d1],rfl⟩
def setSet:List UInt8:=[65,66,67,68,69,70,71,72,73,74,75,76,77,78,79,80,81,82,83,84,85,86,87,88,89,90,48,49,50,51,52,53,54,55,56,57,32,39,46,45,47]
def nameSet:List UInt8:=[65,66,67,68,69,70,71,72,73,74,75,76,77,78,79,80,81,82,83,84,85,86,87,88,89,90,48,49,50,51,52,53,54,55,56,57,32,39,46,45]
def turnSet:List UInt8:=[65,66,67,68,69,70,71,72,73,74,75,76,77,78,79,80,81,82,83,84,85,86,87,88,89,90,32,46]
def nameR (s:List UInt8):Bool:=longR s 1 30 && (plainR s && (madeR s nameSet && madeR (s.take 1) CAPS))
theorem nameR_pch {S:Std} (hS:LibR S) (s:List UInt8) (hs:s.length < 1000000):PcH Tryz.prog S 74 [.str s] (· = .bool (nameR s)):=by
 have h1:=longR_pc s 1 30
 have h2:=plainR_pch hS s hs
 have h3:=madeR_pc s nameSet hs (by decide) (ascii_set (by decide))
 have h4:=madeR_pc (s.take 1) CAPS (by simp; omega) (by decide) (ascii_set (by decide))
 simp only [nameSet,CAPS] at h3 h4
 refine pch_intro (cth_intro Tryz.func74 rfl Tryz.ntmps74 hB74 (by simp) fun h ρ w hg=>goB (N:=18) Tryz.ntmps74 300 ?_)
 simp only [go_sem]
 refine pcall1 (h1) rfl (N:=18) Tryz.ntmps74 rfl (goB (N:=18) Tryz.ntmps74 300 ?_)
 cases e1:longR s 1 30 with
 | false =>
  simp only [go_sem]
  exact aret [2] rfl ⟨by simp [resV,Av.get,Av.put,nameR,e1],rfl⟩
 | true =>
  have e0:decide ((1:Int) ≤ (s.length:Int))=true:=by simp [longR] at e1 ⊢; omega
  simp only [go_sem]
  refine pcallH1 hg (h2) rfl (N:=18) Tryz.ntmps74 rfl (goB (N:=18) Tryz.ntmps74 300 ?_)
  cases e2:plainR s with
  | false =>
   simp only [go_sem]
   exact aret [2] rfl ⟨by simp [resV,Av.get,Av.put,nameR,e1,e2],rfl⟩
  | true =>
   simp only [go_sem]
   refine pcall1 (h3) rfl (N:=18) Tryz.ntmps74 rfl (goB (N:=18) Tryz.ntmps74 300 ?_)
   cases e3:madeR s nameSet with
   | false =>
    simp only [nameSet] at e3
    rw [e3]
    simp only [go_sem]
    exact aret [2] rfl ⟨by simp [resV,Av.get,Av.put,nameR,e1,e2,nameSet,e3],rfl⟩
   | true =>
    have e3':=e3
    simp only [nameSet] at e3
    rw [e3]
    simp only [go_sem,e0]
    refine And.intro (by simp [longR] at e1; omega) ?_
    refine pcall1 (h4) rfl (N:=18) Tryz.ntmps74 rfl (goB (N:=18) Tryz.ntmps74 300 ?_)
    simp only [go_sem]
    exact aret [2] rfl ⟨by simp [resV,Av.get,Av.put,nameR,e1,e2,e3',CAPS],rfl⟩
def setR (s:List UInt8):Bool:=longR s 1 60 && (plainR s && (madeR s setSet && (madeR (s.take 1) CAPS && (!Lib.contains s [32,45,32] && !Lib.hasSuffix s [32,45]))))
theorem setR_pch {S:Std} (hS:LibR S) (s:List UInt8) (hs:s.length < 1000000):PcH Tryz.prog S 296 [.str s] (· = .bool (setR s)):=by
 have h1:=longR_pc s 1 60
 have h2:=plainR_pch hS s hs
 have h3:=madeR_pc s setSet hs (by decide) (ascii_set (by decide))
 have h4:=madeR_pc (s.take 1) CAPS (by simp; omega) (by decide) (ascii_set (by decide))
 have h5:=contains_pch hS.ok s [32,45,32] (by omega)
 have h6:=hasSuffix_pc s [32,45] (by omega)
 simp only [setSet,CAPS] at h3 h4
 refine pch_intro (cth_intro Tryz.func296 rfl Tryz.ntmps296 hB296 (by simp) fun h ρ w hg=>goB (N:=28) Tryz.ntmps296 300 ?_)
 simp only [go_sem]
 refine pcall1 (h1) rfl (N:=28) Tryz.ntmps296 rfl (goB (N:=28) Tryz.ntmps296 300 ?_)
 cases e1:longR s 1 60 with
 | false =>
  simp only [go_sem]
  exact aret [2] rfl ⟨by simp [resV,Av.get,Av.put,setR,e1],rfl⟩
 | true =>
  have e0:decide ((1:Int) ≤ (s.length:Int))=true:=by simp [longR] at e1 ⊢; omega
  simp only [go_sem]
  refine pcallH1 hg (h2) rfl (N:=28) Tryz.ntmps296 rfl (goB (N:=28) Tryz.ntmps296 300 ?_)
  cases e2:plainR s with
  | false =>
   simp only [go_sem]
   exact aret [2] rfl ⟨by simp [resV,Av.get,Av.put,setR,e1,e2],rfl⟩
  | true =>
   simp only [go_sem]
   refine pcall1 (h3) rfl (N:=28) Tryz.ntmps296 rfl (goB (N:=28) Tryz.ntmps296 300 ?_)
   cases e3:madeR s setSet with
   | false =>
    simp only [setSet] at e3
    rw [e3]
    simp only [go_sem]
    exact aret [2] rfl ⟨by simp [resV,Av.get,Av.put,setR,e1,e2,setSet,e3],rfl⟩
   | true =>
    have e3':=e3
    simp only [setSet] at e3
    rw [e3]
    simp only [go_sem,e0]
    refine And.intro (by simp [longR] at e1; omega) ?_
    refine pcall1 (h4) rfl (N:=28) Tryz.ntmps296 rfl (goB (N:=28) Tryz.ntmps296 300 ?_)
    cases e4:madeR (s.take 1) CAPS with
    | false =>
     have e4':=e4
     simp only [CAPS] at e4
     rw [e4]
     simp only [go_sem]
     exact aret [2] rfl ⟨by simp [resV,Av.get,Av.put,setR,e1,e2,e3',e4'],rfl⟩
    | true =>
     have e4':=e4
     simp only [CAPS] at e4
     rw [e4]
     simp only [go_sem]
     refine pcallH1 hg (h5) rfl (N:=28) Tryz.ntmps296 rfl (goB (N:=28) Tryz.ntmps296 300 ?_)
     cases e5:Lib.contains s [32,45,32] with
     | true =>
      simp only [go_sem]
      exact aret [2] rfl ⟨by simp [resV,Av.get,Av.put,setR,e1,e2,e3',e4',e5],rfl⟩
     | false =>
      simp only [go_sem]
      refine pcall1 (h6) rfl (N:=28) Tryz.ntmps296 rfl (goB (N:=28) Tryz.ntmps296 300 ?_)
      simp only [go_sem]
      exact aret [2] rfl ⟨by simp [resV,Av.get,Av.put,setR,e1,e2,e3',e4',e5],rfl⟩
def paraR (p:Pa):Int:=if plainR p.text then (if p.kind == 2 && !nameR p.text then 5 else if p.kind == 5 && !madeR p.text turnSet then 3 else 0) else 3
set_option maxHeartbeats 2000000 in
theorem paraR_pch {S:Std} (hS:LibR S) (p:Pa) (b:Int) (h:paraOk p=true) (hf:followsL p.kind b=true):PcH Tryz.prog S 270 [paA p,.int .i64 b] (· = .int .i64 (paraR p)):=by
 obtain ⟨k,s⟩:=p
 simp only [paraOk,Bool.and_eq_true,decide_eq_true_eq,bne_iff_ne,ne_eq,Bool.or_eq_true,Bool.not_eq_true'] at h
 obtain ⟨h1,h2,h3,h4,h5,h6,h7,h8⟩:=h
 have e0:(s == [])=false:=by simpa using h3
 have hs:s.length < 1000000:=by omega
 have d2:decide ((s.length:Int) > 2000)=false:=by simp; omega
 have hasc:asciiL s:=ascii_ok (by simp only [plainL,Bool.and_eq_true] at h4; exact h4.1)
 have c2:=plainR_pch hS s hs
 have c3:=nameR_pch hS s hs
 have c4:=madeR_pc s turnSet hs (by decide) (ascii_set (by decide))
 simp only [turnSet] at c4
 unfold paA paraR
 simp only at hf ⊢
 have hk:k=1∨k=2∨k=3∨k=4∨k=5:=by omega
 unfold followsL at hf
 refine pch_intro (cth_intro Tryz.func270 rfl Tryz.ntmps270 hB270 (by simp) fun h ρ w hg=>goB (N:=114) Tryz.ntmps270 300 ?_)
 rcases hk with rfl | rfl | rfl | rfl | rfl
 ·simp at hf
  have f2:(b == 2)=false:=by simpa using hf.1
  have f3:(b == 3)=false:=by simpa using hf.2
  simp only [go_sem,e0,d2]
  refine pcallH1 hg (c2) rfl (N:=114) Tryz.ntmps270 rfl (goB (N:=114) Tryz.ntmps270 300 ?_)
  cases e2:plainR s with
  | false =>
   simp only [go_sem]
   exact aret [4] rfl ⟨rfl,rfl⟩
  | true =>
   simp only [go_sem,e0,d2,f2,f3]
   exact aret [4] rfl ⟨rfl,rfl⟩
 ·simp at hf
  have f2:(b == 2)=false:=by simpa using hf.1
  have f3:(b == 3)=false:=by simpa using hf.2
  simp only [go_sem,e0,d2]
  refine pcallH1 hg (c2) rfl (N:=114) Tryz.ntmps270 rfl (goB (N:=114) Tryz.ntmps270 300 ?_)
  cases e2:plainR s with
  | false =>
   simp only [go_sem]
   exact aret [4] rfl ⟨rfl,rfl⟩
  | true =>
   simp only [go_sem,e0,d2,f2,f3]
   refine pcallH1 hg (c3) rfl (N:=114) Tryz.ntmps270 rfl (goB (N:=114) Tryz.ntmps270 300 ?_)
   cases e3:nameR s with
   | false =>
    simp only [go_sem]
    exact aret [4] rfl ⟨rfl,rfl⟩
   | true =>
    simp only [go_sem,e0,d2,f2,f3]
    exact aret [4] rfl ⟨rfl,rfl⟩
 ·have h7:=h7.resolve_left (by simp)
  have d3:decide ((s.length:Int) > 200)=false:=by simp; omega
  simp at hf
  have hf':b=2∨b=4:=hf
  simp only [go_sem,e0,d2,d3]
  refine pcallH1 hg (c2) rfl (N:=114) Tryz.ntmps270 rfl (goB (N:=114) Tryz.ntmps270 300 ?_)
  cases e2:plainR s with
  | false =>
   simp only [go_sem]
   exact aret [4] rfl ⟨rfl,rfl⟩
  | true =>
   simp only [go_sem,e0,d2,d3]
   refine pcall1 (containsAny_pc s [40,41] (by omega) (by decide) hasc (ascii_set rfl)) rfl (N:=114) Tryz.ntmps270 rfl (goB (N:=114) Tryz.ntmps270 300 ?_)
   rw [h7.2]
   rcases hf' with rfl | rfl
   ·simp only [go_sem]
    exact aret [4] rfl ⟨rfl,rfl⟩
   ·simp only [go_sem]
    exact aret [4] rfl ⟨rfl,rfl⟩
 ·simp at hf
  have hf':b=2∨b=3∨b=4:=by omega
  simp only [go_sem,e0,d2]
  refine pcallH1 hg (c2) rfl (N:=114) Tryz.ntmps270 rfl (goB (N:=114) Tryz.ntmps270 300 ?_)
  cases e2:plainR s with
  | false =>
   simp only [go_sem]
   exact aret [4] rfl ⟨rfl,rfl⟩
  | true =>
   rcases hf' with rfl | rfl | rfl <;>
   ·simp only [go_sem,e0,d2]
    exact aret [4] rfl ⟨rfl,rfl⟩
 ·simp at hf
  have f2:(b == 2)=false:=by simpa using hf.1
  have f3:(b == 3)=false:=by simpa using hf.2
  have hl:=h8.resolve_left (by simp)
  have d4:decide ((s.length:Int) > 40)=false:=by simp [isTurnL] at hl ⊢; omega
  simp only [go_sem,e0,d2]
  refine pcallH1 hg (c2) rfl (N:=114) Tryz.ntmps270 rfl (goB (N:=114) Tryz.ntmps270 300 ?_)
  cases e2:plainR s with
  | false =>
   simp only [go_sem]
   exact aret [4] rfl ⟨rfl,rfl⟩
  | true =>
   simp only [go_sem,e0,d2,f2,f3,d4]
   refine pcall1 (c4) rfl (N:=114) Tryz.ntmps270 rfl (goB (N:=114) Tryz.ntmps270 300 ?_)
   cases e3:madeR s turnSet with
   | false =>
    simp only [turnSet] at e3
    rw [e3]
    simp only [go_sem]
    exact aret [4] rfl ⟨rfl,rfl⟩
   | true =>
    simp only [turnSet] at e3
    rw [e3]
    simp only [go_sem,e0,d2,f2,f3,d4]
    exact aret [4] rfl ⟨rfl,rfl⟩
end Go.Proofs.YtnfkjpihaficbaaGreatDoor
namespace Go.Proofs.YtnfkjpihaficbaaGreatDoor
open Go Go.Av Go.RowKit Go.ChangeShapes Go.WideShapes Go.ChangeAt
theorem asc_data:Rows.laid_strings_asciiSpace=Lib.tabData (H:=Unit) .u8 Lib.asciiSpaceTab:=by kernel_rfl
theorem libR_ok {W:World} (h:W.ShapedOpen Tryz.prog) {laid:List (String × DataW Unit)} (hp:(laid.all fun x=>x.2.handleName?.isNone)=true) (hL:laidMetH Tryz.prog laid W)
  (e1:laid.filter (fun x=>x.1 == "internal/strconv.uint64pow10")=[("internal/strconv.uint64pow10",Rows.laid_internal_strconv_uint64pow10)])
  (e2:laid.filter (fun x=>x.1 == "strconv.ErrSyntax")=[("strconv.ErrSyntax",Rows.laid_strconv_ErrSyntax)])
  (e3:laid.filter (fun x=>x.1 == "strings.asciiSpace")=[("strings.asciiSpace",Rows.laid_strings_asciiSpace)]):LibR (stdOf W):=by
 refine ⟨lib_ok h hp hL e1 e2,?_⟩
 rw [MakeChecks.laidMetH_plain _ _ _ hp] at hL
 have h1:=hL.filter (fun x=>x.1 == "strings.asciiSpace")
 rw [e3,asc_data] at h1
 have ht:=Lib.tabIs_of_head (g:=0) (t:=258) (e:=5) (n:=256) (by kernel_rfl) (by kernel_rfl) Tryz.underlying258 Tryz.underlying5 (by kernel_rfl) (by kernel_rfl) h1
 exact var_heap (by kernel_rfl) ht
end Go.Proofs.YtnfkjpihaficbaaGreatDoor
