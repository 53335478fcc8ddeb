/- Statements whose order is open, with stores into several blocks of one's own: in a round of a range over a function, or behind one; results in cells there. Own work of this seat. -/
import Derived.Test.YtnfkjpihaficbaaGreatDoorH33
set_option linter.unusedSimpArgs false
set_option linter.unusedVariables false
set_option linter.unusedSectionVars false
namespace Go.Av
open Go Go.RowKit
variable [Tr]
section
variable {c:Cx} {K:Env→List Blk→Prop} {e:Env} {s:List Blk}
mutual
def dxh (c:Cx) (all:List Oper) (ck:Nat→Env→List Blk→Oper→Prop) (K:Env→List Blk→Prop):Nat→List Oper→List AV→Env→List Blk→Prop
 | _,[],_,e,s=>K e s
 | 0,_ :: _,_,_,_=>False
 | n+1,o :: r,cs,e,s=>ck (rix all (o :: r)) e s o∧dxhc c all ck K n (dgrd c all s o r cs e o.guard)
def dxhc (c:Cx) (all:List Oper) (ck:Nat→Env→List Blk→Oper→Prop) (K:Env→List Blk→Prop):Nat→Dn→Prop
 | n,.go r cs e s=>dxh c all ck K n r cs e s
 | n,.two b r cs e r' cs' e' s=>dbrh c all ck K n b r cs e r' cs' e' s
 | n,.side p r cs e s=>p∧dxh c all ck K n r cs e s
 | _,.fail=>False
def dbrh (c:Cx) (all:List Oper) (ck:Nat→Env→List Blk→Oper→Prop) (K:Env→List Blk→Prop):Nat→Bool→List Oper→List AV→Env→List Oper→List AV→Env→List Blk→Prop
 | 0,_,_,_,_,_,_,_,_=>False
 | n+1,b,r,cs,e,r',cs',e',s=>(b=true→dxh c all ck K n r cs e s)∧(b=false→dxh c all ck K n r' cs' e' s)
end
theorem dbrh_true {all:List Oper} {ck:Nat→Env→List Blk→Oper→Prop} {n:Nat} {r cs e r' cs' e' s}:dbrh c all ck K (n+1) true r cs e r' cs' e' s=dxh c all ck K n r cs e s:=by rw [dbrh]; simp
theorem dbrh_false {all:List Oper} {ck:Nat→Env→List Blk→Oper→Prop} {n:Nat} {r cs e r' cs' e' s}:dbrh c all ck K (n+1) false r cs e r' cs' e' s=dxh c all ck K n r' cs' e' s:=by rw [dbrh]; simp
theorem dxh_op {all:List Oper} {ck:Nat→Env→List Blk→Oper→Prop} {n:Nat} {o:Oper} {r:List Oper} {cs:List AV} (hg:o.guard=none) (h:dxh c all ck K n (o :: r) cs e s) :
  ck (rix all (o :: r)) e s o∧∃ cv v n' cs' s',DoesOp c s o cv e v s'∧dxh c all ck K n' r cs' (put e o.dst v) s':=by
 cases n with
 | zero=>rw [dxh] at h; exact h.elim
 | succ n =>
  rw [dxh] at h
  refine ⟨h.1,?_⟩
  replace h:=h.2
  rw [hg] at h
  unfold dgrd at h
  unfold DoesOp
  revert h
  cases xop false true c.P e s o.op with
  | ok u=>intro h; simp only [dres,dxhc] at h; exact ⟨.any,u,n,cs,s,⟨rfl,rfl⟩,h⟩
  | side p u=>intro h; simp only [dres,dxhc] at h; exact ⟨.any,u,n,cs,s,⟨h.1,rfl,rfl⟩,h.2⟩
  | sto p u s'=>intro h; simp only [dres,dxhc] at h; exact ⟨.any,u,n,cs,s',⟨h.1.1,h.1.2,rfl,rfl⟩,h.2⟩
  | pick b x y =>
   intro h; simp only [dres,dxhc] at h
   cases n with
   | zero=>rw [dbrh] at h; exact h.elim
   | succ n =>
   rw [dbrh] at h
   refine ⟨.any,_,n,cs,s,⟨rfl,rfl⟩,?_⟩
   cases b with
   | true=>exact h.1 rfl
   | false=>exact h.2 rfl
  | call f args =>
   intro h; simp only [dres] at h
   cases cs with
   | nil=>simp only [dcall,dxhc] at h
   | cons cv cs=>simp only [dcall,dxhc] at h; exact ⟨cv,cv,n,cs,s,⟨h.1.1,h.1.2,rfl,rfl⟩,h.2⟩
  | anyb p=>intro h; simp only [dres,dxhc] at h
  | stuck=>intro h; simp only [dres,dxhc] at h
theorem dxh_step {all:List Oper} {ck:Nat→Env→List Blk→Oper→Prop} {n:Nat} {o:Oper} {r:List Oper} {cs:List AV} (h:dxh c all ck K n (o :: r) cs e s) :
  ck (rix all (o :: r)) e s o∧∃ cv v n' cs' s',Does c all.toArray s o cv e v s'∧dxh c all ck K n' r cs' (put e o.dst v) s':=by
 cases hg:o.guard with
 | none =>
  obtain ⟨h0,cv,v,n',cs',s',h1,h2⟩:=dxh_op hg h
  exact ⟨h0,cv,v,n',cs',s',by unfold Does; rw [hg]; exact h1,h2⟩
 | some jw =>
  obtain ⟨j,want⟩:=jw
  cases n with
  | zero=>rw [dxh] at h; exact h.elim
  | succ n =>
   rw [dxh] at h
   refine ⟨h.1,?_⟩
   replace h:=h.2
   rw [hg] at h
   unfold dgrd dyld at h
   cases hy:yldD want e all[j]? with
   | none=>simp only [hy,dxhc] at h
   | some b =>
    simp only [hy] at h
    have key:(b=want→∃ n',dxh c all ck K n' ({ o with guard:=none } :: r) cs e s)∧(b ≠ want→∃ n',dxh c all ck K n' r cs (put e o.dst (.raw undef)) s):=by
     cases n with
     | zero=>cases want <;> simp only [cond_true,cond_false,dxhc,dbrh] at h
     | succ n =>
      cases want <;> simp only [cond_true,cond_false,dxhc,dbrh] at h <;> cases b <;>
       first
       | exact ⟨fun _=>⟨n,h.1 rfl⟩,fun hh=>(hh rfl).elim⟩
       | exact ⟨fun _=>⟨n,h.2 rfl⟩,fun hh=>(hh rfl).elim⟩
       | exact ⟨fun hh=>(by cases hh),fun _=>⟨n,h.1 rfl⟩⟩
       | exact ⟨fun hh=>(by cases hh),fun _=>⟨n,h.2 rfl⟩⟩
    have hy':yldD want e all.toArray[j]? = some b:=by simpa using hy
    by_cases hb:b=want
    ·obtain ⟨n1,h1⟩:=key.1 hb
     obtain ⟨_,cv,v,n',cs',s',h1,h2⟩:=dxh_op (o:={ o with guard:=none }) rfl h1
     refine ⟨cv,v,n',cs',s',?_,h2⟩
     unfold Does
     rw [hg]
     simp only [hy']
     exact .inl ⟨hb,h1⟩
    ·obtain ⟨n1,h1⟩:=key.2 hb
     refine ⟨.any,.raw undef,n1,cs,s,?_,h1⟩
     unfold Does
     rw [hg]
     simp only [hy']
     exact .inr ⟨hb,trivial,trivial⟩
theorem chO_of_dxh {all:List Oper} {ids lk:List (Nat × Nat)}:∀ {r:List Oper} {m n:Nat} {cs:List AV} {e:Env} {s:List Blk},(∀ (j:Nat),r[j]? = all[m+j]?)→all.length=m+r.length→dxh c all (sck ids lk) K n r cs e s→ChO c all.toArray ids lk K (List.range' m r.length) e s
 | [],m,n,cs,e,s,_,_,h=>by
  rw [dxh] at h
  exact h
 | o :: r,m,n,cs,e,s,hr,hlen,h=>by
  obtain ⟨h0,cv,v,n',cs',s',h1,h2⟩:=dxh_step h
  have hat:all.toArray[m]? = some o:=by have:=hr 0; simpa using this.symm
  have hix:rix all (o :: r)=m:=by unfold rix; omega
  rw [hix] at h0
  simp only [List.length_cons,List.range'_succ,ChO,hat]
  exact ⟨h0,cv,v,s',h1,chO_of_dxh (fun j=>by have:=hr (j+1); simpa [Nat.add_assoc,Nat.add_comm 1 j] using this) (by simp at hlen; omega) h2⟩
end
section
variable {r:Cr} {k:List It} {e:Env} {s:List Blk}
theorem adrawOR (ids lk:List (Nat × Nat)) (cs:List AV) {id:Nat} {ops:List Oper} (hm:r.c.P.follows .mixedOrders=true) (hok:drawOkG (okSo ops ids lk) ops=true) {N:Nat} (hN:r.c.fn.ntmps=N) (hdst:ops.all (fun o=>dOk N o.dst)=true) (n:Nat)
  (h:dxh r.c ops (sck ids lk) (fun e s=>AWpR r k e s) n ops cs e s):AWpR r (.code (.region id ops.toArray true) :: k) e s:=by
 intro a w hsim
 have hch:=chO_of_dxh (m:=0) (by intro j; simp) (by simp) h
 rw [← List.range_eq_range'] at hch
 refine wpIn_region_any hm ?_
 have hsim':SimR r e s a { w with drawn:=w.drawn+1 }:=by
  obtain ⟨hh,ρ,hmm,hl,he,hdf,hsz,hX⟩:=hsim
  have sm:Same w { w with drawn:=w.drawn+1 }:=Same.drew w
  exact ⟨hh,ρ,hmm.same sm,hl.trans (Later.same sm),he,hdf,hsz,r.c.hx.later hmm (Later.same sm) hX⟩
 have hd:∀ o ∈ ops,dOk r.c.fn.ntmps o.dst=true:=fun o ho=>by rw [hN]; exact (List.all_eq_true.1 hdst) o ho
 refine any_of_genR (okp:=okSo ops ids lk) (ChO r.c ops.toArray ids lk (fun e s=>AWpR r k e s)) hok (fun e s x=>x) (fun l i r' e s hj x=>ChO.front rfl AWpR.K hj x)
  (fun i o r' e s a w Kc ho x hs hK=>?_)
  ops.length (Array.replicate ops.length false) (List.range ops.length) e s a _ (by simp) ?_ (by simp) ?_ hch hsim'
 ·have ho':ops.toArray[i]? = some o:=by simpa using ho
  simp only [ChO,ho'] at x
  obtain ⟨_,cv,v,s',h1,h2⟩:=x
  exact does_wpR hs (hd o (List.mem_of_getElem? ho)) h1 fun a w hs'=>hK _ _ a w h2 hs'
 ·symm
  rw [List.filter_eq_self]
  intro i hi
  simp at hi
  simp [hi]
 ·intro i hi j hj
  exfalso
  by_cases h1:i < ops.length
  ·simp [h1] at hi
  ·unfold waits at hj
   have:ops[i]? = none:=by simp; omega
   simp [this] at hj
end
theorem aretcM {P:Program} {fn:Func} {h0:Mem} {ρ0:Own} {sto0:List Blk} {w0:World} {post:AV→List Blk→Prop} {e:Env} {s:List Blk} {D:Nat} {x:Exit} (hx:x=.normal∨x=.ret) (hD:w0.heap.size ≤ D) (rs:List ResultVar) (hr:fn.results=rs.toArray) (vals:List AV) (hv:ResOk P e s rs vals)
  (hp:post (resT vals) s):AOut (mkM P fn h0 ρ0 sto0 w0 post [D]) x e s:=by
 intro a w hsim
 obtain ⟨h,ρ,hm,hl,he,hdf,hsz,hX⟩:=hsim
 have hK:=(hX (D,.deferred (some [])) (by simp [DfO])).1
 have hun:=(hX (D,.deferred (some [])) (by simp [DfO])).2
 have hdf:a.defers=[{ target:=.collected D,args:=#[] }]:=hdf
 have hm':=hm.putObj (x:=.deferred none) hK rfl hun
 have hl':=hl.putNew (l:=D) (x:=.deferred none) hD
 obtain ⟨vs,h1,h2⟩:=results_cells (c:=⟨P,fn,h0,ρ0,sto0,w0,post,X0,stb0⟩) hm' he hv
 have hrv:RV h (Lf ρ s) false (tupV vs) (resT vals):=by
  cases h2 with
  | nil=>exact .tup _ _ .nil
  | cons r1 r2 =>
   cases r2 with
   | nil=>exact r1
   | cons r2 r3=>exact .tup _ _ (.cons r1 (.cons r2 r3))
 have:LeavesInM Fence.wide 0 P fn a.tmps (fun en w'=>∃ v r s h' ρ',en=.returned v∧post r s∧Mine h' ρ' s w'∧Later h0 ρ0 sto0 w0 h' ρ' s w'∧RV h' (Lf ρ' s) false v r) a.defers .returning w:=by
  rw [hdf]
  exact ⟨by simp,.inl ⟨D,_,rfl,run_takeDeferred hK,_,results_eq rs hr _ h1,_,_,s,h,ρ,rfl,hp,hm',hl',hrv⟩⟩
 rcases hx with rfl | rfl <;> exact this
end Go.Av
set_option maxRecDepth 100000
namespace Go.Proofs.YtnfkjpihaficbaaGreatDoor
open Go Go.Av Go.RowKit
def rpItems (j:Nat):List AV:=[itHashA,itGunA].take j
def rpT (j:Nat) (q:List UInt8):List Blk:=[.arr 1 [.raw (.slice none 0 0)],.arr 1 [.bool false],.arr 1 [.sl 7 0 (rpItems j).length (rpItems j).length],.arr 1 [.bool (decide (2 ≤ j))],.arr 1 [.str q],.arr 1 [.str [32]],.arr 1 [.int .i64 0],.arr 4 (rpItems j)]
set_option maxHeartbeats 4000000 in
theorem readPattern_pch {St:Std} (hS:LibOk St):PcH Tryz.prog St 104 [.str [35,32,103,117,110,42]] (· = .tup [.fz 4 [itHashA,itGunA],.bool true]):=by
 have hsp:splitW [35,32,103,117,110,42]=[[35],[103,117,110,42]]:=by decide
 refine pch_intro (cthM_intro Tryz.func104 rfl Tryz.ntmps104 hB104 (by simp) fun h ρ w hg=>?_)
 refine goR (N:=37) Tryz.ntmps104 300 ?_
 simp only [go_sem,runR,contR,brR,step1R,resNR,stopNR,exitNR,dxk,dxkc,dbrk,↓brR_true,↓brR_false,↓dbrk_true,↓dbrk_false]
 refine acallR (splitSeqB_ct _ _ [32]) (N:=37) Tryz.ntmps104 rfl ?_
 rintro _ _ ⟨rfl,rfl⟩
 refine goR (N:=37) Tryz.ntmps104 300 ?_
 simp only [go_sem,runR,contR,brR,step1R,resNR,stopNR,exitNR,dxk,dxkc,dbrk,↓brR_true,↓brR_false,↓dbrk_true,↓dbrk_false]
 refine AWpR.shift (Shift.cells 2 4 [.sl 7 0 0 0] rfl rfl (by simp [cellsOf]) ⟨.sl,trivial⟩) ?_
 refine arange (S:=fun j q=>rpT j q) (q0:=[35,32,103,117,110,42]) (xs:=(splitW [35,32,103,117,110,42]).map .str) (E1:=fun j=>[(6,.str ((splitW [35,32,103,117,110,42]).getD j [])),(2,.ptr 0 1 0 0),(3,.ptr 1 1 0 0),(4,.ptr 2 1 0 0),(5,.ptr 3 1 0 0)]) hg rfl rfl
  (splitSeq_it hS _ (by decide) _ 5 4 6 (fun _ _=>rfl) (fun _ _=>rfl) (fun _ _=>rfl) (fun _ _ _=>rfl)) (by decide) ?_ ?_ ?_
 ·intro j q x h1 ρ1 w1 l id J hx hle hJ
  rw [hsp] at hx hJ
  have hj:j=0∧x=.str [35]∨j=1∧x=.str [103,117,110,42]:=by
   match j,hx with
   | 0,hx=>exact .inl ⟨rfl,(Option.some.inj hx).symm⟩
   | 1,hx=>exact .inr ⟨rfl,(Option.some.inj hx).symm⟩
   | j+2,hx=>cases hx
  rcases hj with ⟨rfl,rfl⟩ | ⟨rfl,rfl⟩
  ·refine goR (N:=37) Tryz.ntmps104 300 ?_
   simp only [go_sem,runR,contR,brR,step1R,resNR,stopNR,exitNR,dxk,dxkc,dbrk,↓brR_true,↓brR_false,↓dbrk_true,↓dbrk_false]
   refine ainvR hJ (Shift.weak ?_)
   simp only [wk,go_sem]
  ·refine goR (N:=37) Tryz.ntmps104 300 ?_
   simp only [go_sem,runR,contR,brR,step1R,resNR,stopNR,exitNR,dxk,dxkc,dbrk,↓brR_true,↓brR_false,↓dbrk_true,↓dbrk_false]
   refine ainvR hJ (Shift.weak ?_)
   simp only [wk,go_sem]
 ·intro j q x h1 ρ1 w1 l id J hx hle hJ
  rw [hsp] at hx ⊢
  have hj:j=0∧x=.str [35]∨j=1∧x=.str [103,117,110,42]:=by
   match j,hx with
   | 0,hx=>exact .inl ⟨rfl,(Option.some.inj hx).symm⟩
   | 1,hx=>exact .inr ⟨rfl,(Option.some.inj hx).symm⟩
   | j+2,hx=>cases hx
  rcases hj with ⟨rfl,rfl⟩ | ⟨rfl,rfl⟩
  ·have hr:=readHash_pc
   have e0:rpT 0 q=[.arr 1 [.raw (.slice none 0 0)],.arr 1 [.bool false],.arr 1 [.sl 7 0 0 0],.arr 1 [.bool false],.arr 1 [.str q],.arr 1 [.str [32]],.arr 1 [.int .i64 0],.arr 4 []]:=rfl
   have e1:rpT (0+1) q=[.arr 1 [.raw (.slice none 0 0)],.arr 1 [.bool false],.arr 1 [.sl 7 0 1 1],.arr 1 [.bool false],.arr 1 [.str q],.arr 1 [.str [32]],.arr 1 [.int .i64 0],.arr 4 [itHashA]]:=rfl
   rw [e0]
   rw [e1] at hJ
   simp only [itHashA] at hr hJ
   refine goFR (N:=37) Tryz.ntmps104 300 ?_
   simp only [go_sem,runR,contR,brR,step1R,resNR,stopNR,exitNR,dxk,dxkc,dbrk,↓brR_true,↓brR_false,↓dbrk_true,↓dbrk_false]
   refine pcallR1 (hr) rfl (N:=37) Tryz.ntmps104 rfl (goFR (N:=37) Tryz.ntmps104 300 ?_)
   simp only [go_sem,runR,contR,brR,step1R,resNR,stopNR,exitNR,dxk,dxkc,dbrk,↓brR_true,↓brR_false,↓dbrk_true,↓dbrk_false]
   repeat refine And.intro (by first | rfl | exact .inl trivial | exact .inl rfl) ?_
   exact ainvR hJ (Shift.trans (Shift.low 8 (e':=[]) (by first | exact Nat.le_refl _ | simp) (by simp) rfl trivial) (Shift.weakS trivial rfl))
  ·have hr:=readGun_pc
   have e1:rpT 1 q=[.arr 1 [.raw (.slice none 0 0)],.arr 1 [.bool false],.arr 1 [.sl 7 0 1 1],.arr 1 [.bool false],.arr 1 [.str q],.arr 1 [.str [32]],.arr 1 [.int .i64 0],.arr 4 [itHashA]]:=rfl
   have e2:rpT (1+1) q=[.arr 1 [.raw (.slice none 0 0)],.arr 1 [.bool false],.arr 1 [.sl 7 0 2 2],.arr 1 [.bool true],.arr 1 [.str q],.arr 1 [.str [32]],.arr 1 [.int .i64 0],.arr 4 [itHashA,itGunA]]:=rfl
   rw [e1]
   rw [e2] at hJ
   simp only [itHashA,itGunA] at hr hJ ⊢
   refine goFR (N:=37) Tryz.ntmps104 300 ?_
   simp only [go_sem,runR,contR,brR,step1R,resNR,stopNR,exitNR,dxk,dxkc,dbrk,↓brR_true,↓brR_false,↓dbrk_true,↓dbrk_false]
   refine pcallR1 (hr) rfl (N:=37) Tryz.ntmps104 rfl (goFR (N:=37) Tryz.ntmps104 300 ?_)
   simp only [go_sem,runR,contR,brR,step1R,resNR,stopNR,exitNR,dxk,dxkc,dbrk,↓brR_true,↓brR_false,↓dbrk_true,↓dbrk_false]
   repeat refine And.intro (by first | rfl | exact .inl trivial | exact .inl rfl) ?_
   exact ainvR hJ (Shift.trans (Shift.low 8 (e':=[]) (by first | exact Nat.le_refl _ | simp) (by simp) rfl trivial) (Shift.weakS trivial rfl))
 ·intro D q hD
  have e2:rpT (List.map AV.str (splitW [35,32,103,117,110,42])).length q=[.arr 1 [.raw (.slice none 0 0)],.arr 1 [.bool false],.arr 1 [.sl 7 0 2 2],.arr 1 [.bool true],.arr 1 [.str q],.arr 1 [.str [32]],.arr 1 [.int .i64 0],.arr 4 [itHashA,itGunA]]:=by
   rw [hsp]
   rfl
  rw [e2]
  refine AWpR.shift (Shift.trans (Shift.frz 7 (es:=4) (l:=[itHashA,itGunA]) rfl rfl) (Shift.weakS (e':=[(2,.ptr 0 1 0 0),(3,.ptr 1 1 0 0),(4,.ptr 2 1 0 0),(5,.ptr 3 1 0 0)]) (s':=[.arr 1 [.raw (.slice none 0 0)],.arr 1 [.bool false],.arr 1 [.fz 4 [itHashA,itGunA]],.arr 1 [.bool true],.arr 1 [.str q],.arr 1 [.str [32]],.arr 1 [.int .i64 0],.dead]) ?_ rfl)) ?_
  ·exact ⟨rfl,rfl,rfl,rfl,trivial⟩
  refine goFR (N:=37) Tryz.ntmps104 300 ?_
  simp only [go_sem,runR,contR,brR,step1R,resNR,stopNR,exitNR,dxk,dxkc,dbrk,↓brR_true,↓brR_false,↓dbrk_true,↓dbrk_false]
  refine adrawOR [(7,0),(8,1)] [] [] mixed (by decide) (N:=37) Tryz.ntmps104 (by decide) 100 ?_
  simp only [go_sem,runR,contR,brR,step1R,resNR,stopNR,exitNR,dxk,dxkc,dbrk,↓brR_true,↓brR_false,↓dbrk_true,↓dbrk_false,Go.Av.dxh,Go.Av.dxhc,↓Go.Av.dbrh_true,↓Go.Av.dbrh_false,Go.Av.dbrh,Go.Av.sck,Go.Av.stoD]
  repeat refine And.intro (by first | rfl | decide) ?_
  refine goFR (N:=37) Tryz.ntmps104 300 ?_
  simp only [go_sem,runR,contR,brR,step1R,resNR,stopNR,exitNR,dxk,dxkc,dbrk,↓brR_true,↓brR_false,↓dbrk_true,↓dbrk_false]
  exact aretcM (.inr rfl) hD [.cell 2 188,.cell 3 4] rfl [.fz 4 [itHashA,itGunA],.bool true] ⟨by simp only [go_sem,sideIs],by simp only [go_sem,sideIs],trivial⟩ ⟨rfl,rfl⟩
theorem tagsTrue_pch {S:Std} (hS:LibOk S):PcH Tryz.prog S 12 [] (· = .bool true):=tags_pch (readPattern_pch hS)
theorem splitC_len (s:List UInt8) (c:UInt8):(splitL s [c]).length ≤ s.length+2:=by
 rw [mSplitL_eq]
 have:=Lib.count_le s [c]
 have:=mSplitK_len [c] (Lib.count s [c]) s
 omega
theorem strs_get (l:List (List UInt8)) (i:Nat) (h:i < l.length):(l.map AV.str).getD i .any=.str l[i]:=by simp [List.getD,h]
def patR (p:List UInt8):Int :=
 if (splitL p [32]).all (fun s=>(itemR s).1) then (if (splitL p [32]).length > 8∨¬ (splitL p [32]).any (fun s=>(itemR s).2)=true then 9 else 0) else 9
set_option maxHeartbeats 1000000 in
theorem patR_pch {S:Std} (hS:LibOk S) (p:List UInt8) (hl:p.length < 900):PcH Tryz.prog S 46 [.str p] (· = .int .i64 (patR p)):=by
 have hsp:=split_pch hS p [32] (by omega) (by decide)
 have hle:=splitC_le p 32
 have hlen:=splitC_len p 32
 unfold patR
 generalize splitL p [32]=l at *
 refine pch_intro (cth_intro Tryz.func46 rfl Tryz.ntmps46 hB46 (by simp) fun h ρ w hg=>goB (N:=36) Tryz.ntmps46 300 ?_)
 simp only [go_sem]
 refine pcallH1 hg (hsp) rfl (N:=36) Tryz.ntmps46 rfl (goB (N:=36) Tryz.ntmps46 300 ?_)
 simp only [go_sem]
 refine aloop (ι:=Nat) (fun i=>l.length - i) (fun i=>[(13,.int .i64 i),(12,.int .i64 l.length),(11,.fz 1 (l.map .str)),(4,.bool ((l.take i).any fun s=>(itemR s).2)),(3,.fz 1 (l.map .str))]) (fun _=>[]) (fun i=>i ≤ l.length∧(l.take i).all (fun s=>(itemR s).1)=true) 0 (by simp) ?_ ?_
 ·refine Shift.weak ?_
  simp only [wk,go_sem,List.length_map]
  try rfl
 rintro i ⟨g1,g2⟩ J hJ
 by_cases hi:i < l.length
 ·have di:decide ((i:Int) < (l.length:Int))=true:=by simp; omega
  have hfin:=fun (h:(itemR l[i]).1=true)=>hJ (i+1) ⟨by omega,by rw [List.take_succ_eq_append_getElem hi,List.all_append,g2]; simp [h]⟩ (by omega)
  have p1:=strs_get l i hi
  have hw:=itemR_pch hS l[i] (by have:=hle _ (List.getElem_mem hi); omega)
  have hbad:(itemR l[i]).1=false→l.all (fun s=>(itemR s).1)=false:=fun h=>by
   rw [List.all_eq_false]
   exact ⟨_,List.getElem_mem hi,by simp [h]⟩
  have hany:((l.take (i+1)).any fun s=>(itemR s).2)=(((l.take i).any fun s=>(itemR s).2) || (itemR l[i]).2):=by
   rw [List.take_succ_eq_append_getElem hi,List.any_append]
   simp
  rw [hany] at hfin
  generalize l[i]=y at *
  cases hy:(itemR y).1 with
  | true =>
   have hfin:=hfin hy
   rw [hy] at hw
   clear hbad hany hJ
   generalize (itemR y).2=b2 at *
   cases hb:((l.take i).any fun s=>(itemR s).2) with
   | true =>
    rw [hb] at hfin
    refine goB (N:=36) Tryz.ntmps46 300 ?_
    simp only [go_sem,di,p1,List.length_map]
    repeat refine And.intro (by first | omega | rfl | (simp; done) | (simp; omega)) ?_
    refine pcallH1 hg (hw) rfl (N:=36) Tryz.ntmps46 rfl (goB (N:=36) Tryz.ntmps46 300 ?_)
    simp only [go_sem]
    repeat refine And.intro (by first | omega | rfl | (simp; done) | (simp; omega)) ?_
    rw [show (i:Int)+1=((i+1:Nat):Int) by omega]
    refine ainv hfin (Shift.weak ?_)
    simp only [wk,go_sem,Bool.true_or]
   | false =>
    rw [hb] at hfin
    refine goB (N:=36) Tryz.ntmps46 300 ?_
    simp only [go_sem,di,p1,List.length_map]
    repeat refine And.intro (by first | omega | rfl | (simp; done) | (simp; omega)) ?_
    refine pcallH1 hg (hw) rfl (N:=36) Tryz.ntmps46 rfl (goB (N:=36) Tryz.ntmps46 300 ?_)
    simp only [go_sem]
    repeat refine And.intro (by first | omega | rfl | (simp; done) | (simp; omega)) ?_
    rw [show (i:Int)+1=((i+1:Nat):Int) by omega]
    refine ainv hfin (Shift.weak ?_)
    simp only [wk,go_sem,Bool.false_or]
  | false =>
   rw [hbad hy]
   rw [hy] at hw
   generalize ((l.take i).any fun s=>(itemR s).2)=b1 at *
   refine goB (N:=36) Tryz.ntmps46 300 ?_
   simp only [go_sem,di,p1,List.length_map]
   repeat refine And.intro (by first | omega | rfl | (simp; done) | (simp; omega)) ?_
   refine pcallH1 hg (hw) rfl (N:=36) Tryz.ntmps46 rfl (goB (N:=36) Tryz.ntmps46 300 ?_)
   simp only [go_sem]
   exact aret [2] rfl ⟨rfl,rfl⟩
 ·have di:decide ((i:Int) < (l.length:Int))=false:=by simp; omega
  rw [List.take_of_length_le (by omega)] at g2 ⊢
  rw [g2,if_pos rfl]
  generalize (l.any fun s=>(itemR s).2)=b1 at *
  by_cases h8:l.length > 8
  ·have d8:decide ((l.length:Int) > 8)=true:=by simp; omega
   rw [if_pos (.inl h8)]
   refine goB (N:=36) Tryz.ntmps46 300 ?_
   simp only [go_sem,di,d8,List.length_map]
   exact aret [2] rfl ⟨rfl,rfl⟩
  ·have d8:decide ((l.length:Int) > 8)=false:=by simp; omega
   cases b1 with
   | true =>
    rw [if_neg (by simp; omega)]
    refine goB (N:=36) Tryz.ntmps46 300 ?_
    simp only [go_sem,di,d8,List.length_map]
    exact aret [2] rfl ⟨rfl,rfl⟩
   | false =>
    rw [if_pos (.inr (by simp))]
    refine goB (N:=36) Tryz.ntmps46 300 ?_
    simp only [go_sem,di,d8,List.length_map]
    exact aret [2] rfl ⟨rfl,rfl⟩
theorem suffix_drop (s:List UInt8):Lib.hasSuffix s [42]=(s.drop (s.length - 1) == [42]):=by
 unfold Lib.hasSuffix
 rw [Bool.eq_iff_iff,List.isSuffixOf_iff_suffix,List.suffix_iff_eq_drop,beq_iff_eq]
 exact ⟨fun h=>h.symm,fun h=>h.symm⟩
theorem sHasSuffixX_pc (s:List UInt8) (hl:s.length < 1000000):Pc Tryz.prog 199 [.str s,.str [42]] (· = .bool (Lib.hasSuffix s [42])):=by
 by_cases h:1 ≤ s.length
 ·have d:decide ((s.length:Int) ≥ 1)=true:=by simp; omega
  rw [suffix_drop]
  refine pc_intro (ct_intro Tryz.func199 rfl Tryz.ntmps199 hB199 (by simp) fun h ρ w=>goB (N:=21) Tryz.ntmps199 300 ?_)
  simp only [go_sem,d]
  repeat refine And.intro (by omega) ?_
  rw [show ((s.length:Int) - 1).toNat=s.length - 1 by omega]
  exact aret [4] rfl ⟨rfl,rfl⟩
 ·have hs:s=[]:=List.eq_nil_of_length_eq_zero (by omega)
  subst hs
  have d:decide (((([]:List UInt8).length:Nat):Int) ≥ 1)=false:=rfl
  refine pc_intro (ct_intro Tryz.func199 rfl Tryz.ntmps199 hB199 (by simp) fun h ρ w=>goB (N:=21) Tryz.ntmps199 300 ?_)
  simp only [go_sem]
  exact aret [4] rfl ⟨rfl,rfl⟩
def cutR (s:List UInt8):List UInt8:=if Lib.hasSuffix s [42] then s.take (s.length - 1) else s
theorem sCutSuffixX_pc (s:List UInt8) (hl:s.length < 1000000):Pc Tryz.prog 260 [.str s,.str [42]] (· = .tup [.str (cutR s),.bool (Lib.hasSuffix s [42])]):=by
 have h1:=sHasSuffixX_pc s hl
 unfold cutR
 cases h:Lib.hasSuffix s [42] with
 | false =>
  rw [h] at h1
  rw [if_neg (by simp)]
  refine pc_intro (ct_intro Tryz.func260 rfl Tryz.ntmps260 hB260 (by simp) fun h ρ w=>goB (N:=18) Tryz.ntmps260 300 ?_)
  simp only [go_sem]
  refine pcall1 (h1) rfl (N:=18) Tryz.ntmps260 rfl (goB (N:=18) Tryz.ntmps260 300 ?_)
  simp only [go_sem]
  exact aret [4,5] rfl ⟨rfl,rfl⟩
 | true =>
  rw [h] at h1
  have hs1:1 ≤ s.length:=by
   cases s with
   | nil=>exact absurd h (by decide)
   | cons a b=>simp
  rw [if_pos rfl]
  refine pc_intro (ct_intro Tryz.func260 rfl Tryz.ntmps260 hB260 (by simp) fun h ρ w=>goB (N:=18) Tryz.ntmps260 300 ?_)
  simp only [go_sem]
  refine pcall1 (h1) rfl (N:=18) Tryz.ntmps260 rfl (goB (N:=18) Tryz.ntmps260 300 ?_)
  simp only [go_sem]
  repeat refine And.intro (by omega) ?_
  rw [show ((s.length:Int) - 1).toNat=s.length - 1 by omega]
  exact aret [4,5] rfl ⟨rfl,rfl⟩
theorem cutSuffixX_pc (s:List UInt8) (hl:s.length < 1000000):Pc Tryz.prog 208 [.str s,.str [42]] (· = .tup [.str (cutR s),.bool (Lib.hasSuffix s [42])]):=by
 have h1:=sCutSuffixX_pc s hl
 refine pc_intro (ct_intro Tryz.func208 rfl Tryz.ntmps208 hB208 (by simp) fun h ρ w=>goB (N:=11) Tryz.ntmps208 300 ?_)
 simp only [go_sem]
 refine pcall1 (h1) rfl (N:=11) Tryz.ntmps208 rfl (goB (N:=11) Tryz.ntmps208 300 ?_)
 simp only [go_sem]
 exact aret [4,5] rfl ⟨rfl,rfl⟩
structure It2 where
 any':Bool
 count:Bool
 begins:Bool
 words:Option (List (List UInt8))
deriving DecidableEq
def wdsA:Option (List (List UInt8))→AV
 | none=>.raw (.slice none 0 0)
 | some l=>.fz 1 (l.map .str)
def itB (x:It2):AV:=.agg [.bool x.any',.bool x.count,.bool x.begins,wdsA x.words]
def readI (s:List UInt8):It2 × Bool :=
 if s=[63] then (⟨true,false,false,none⟩,true) else if s=[35] then (⟨false,true,false,none⟩,true)
 else if Lib.hasSuffix s [42] then (⟨false,false,true,some [s.take (s.length - 1)]⟩,isWordL (s.take (s.length - 1)))
 else if (splitL s [124]).all isWordL then (⟨false,false,false,some (splitL s [124])⟩,true) else (⟨false,false,false,none⟩,false)
set_option maxHeartbeats 1000000 in
theorem readI_pch {S:Std} (hS:LibOk S) (s:List UInt8) (hl:s.length < 1000):PcH Tryz.prog S 152 [.str s] (· = .tup [itB (readI s).1,.bool (readI s).2]):=by
 have hcu:=cutSuffixX_pc s (by omega)
 have hsp:=split_pch hS s [124] (by omega) (by decide)
 have hle:=splitC_le s 124
 have hlen:=splitC_len s 124
 unfold readI
 unfold cutR at hcu
 by_cases h1:s=[63]
 ·subst h1
  rw [if_pos rfl]
  simp only [itB,wdsA]
  refine pch_intro (cth_intro Tryz.func152 rfl Tryz.ntmps152 hB152 (by simp) fun h ρ w hg=>goB (N:=42) Tryz.ntmps152 300 ?_)
  simp only [go_sem]
  exact aretc [.cell 2 233,.tmp 3] rfl [_,_] ⟨by simp only [go_sem,sideIs],rfl,trivial⟩ ⟨rfl,rfl⟩
 rw [if_neg h1]
 have d1:(s == [63])=false:=by simpa using h1
 by_cases h2:s=[35]
 ·subst h2
  have d3:(([35]:List UInt8) == [63])=false:=by decide
  rw [if_pos rfl]
  simp only [itB,wdsA]
  refine pch_intro (cth_intro Tryz.func152 rfl Tryz.ntmps152 hB152 (by simp) fun h ρ w hg=>goB (N:=42) Tryz.ntmps152 300 ?_)
  simp only [go_sem,d3]
  exact aretc [.cell 2 233,.tmp 3] rfl [_,_] ⟨by simp only [go_sem,sideIs],rfl,trivial⟩ ⟨rfl,rfl⟩
 rw [if_neg h2]
 have d2:(s == [35])=false:=by simpa using h2
 cases h3:Lib.hasSuffix s [42] with
 | true =>
  rw [h3,if_pos rfl] at hcu
  rw [if_pos rfl]
  have hw:=isWordX_pc (s.take (s.length - 1)) (by rw [List.length_take]; omega)
  generalize s.take (s.length - 1)=q at *
  simp only [itB,wdsA,List.map_cons,List.map_nil]
  refine pch_intro (cth_intro Tryz.func152 rfl Tryz.ntmps152 hB152 (by simp) fun h ρ w hg=>goB (N:=42) Tryz.ntmps152 300 ?_)
  simp only [go_sem,d1,d2]
  refine pcall1 (hcu) rfl (N:=42) Tryz.ntmps152 rfl (goB (N:=42) Tryz.ntmps152 300 ?_)
  simp only [go_sem]
  repeat refine And.intro (by first | rfl | decide | exact .inl rfl | exact .inl trivial) ?_
  refine pcall1 (hw) rfl (N:=42) Tryz.ntmps152 rfl (goB (N:=42) Tryz.ntmps152 300 ?_)
  simp only [go_sem]
  repeat refine And.intro (by first | rfl | decide | exact .inl rfl | exact .inl trivial) ?_
  exact aretc [.cell 2 233,.tmp 3] rfl [_,_] ⟨by simp only [go_sem,sideIs],rfl,trivial⟩ ⟨rfl,rfl⟩
 | false =>
  rw [h3,if_neg (by simp)] at hcu
  rw [if_neg (by simp)]
  generalize splitL s [124]=l at *
  simp only [itB,wdsA]
  refine pch_intro (cth_intro Tryz.func152 rfl Tryz.ntmps152 hB152 (by simp) fun h ρ w hg=>goB (N:=42) Tryz.ntmps152 300 ?_)
  simp only [go_sem,d1,d2]
  refine pcall1 (hcu) rfl (N:=42) Tryz.ntmps152 rfl (goB (N:=42) Tryz.ntmps152 300 ?_)
  simp only [go_sem]
  refine pcallH1 hg (hsp) rfl (N:=42) Tryz.ntmps152 rfl (goB (N:=42) Tryz.ntmps152 300 ?_)
  simp only [go_sem]
  refine aloop (ι:=Nat) (fun i=>l.length - i) (fun i=>[(31,.int .i64 i),(30,.int .i64 l.length),(29,.fz 1 (l.map .str)),(6,.fz 1 (l.map .str)),(2,.ptr 0 1 0 0)]) (fun _=>[.arr 4 [.agg [.bool false,.bool false,.bool false,.raw (.slice none 0 0)]]]) (fun i=>i ≤ l.length∧(l.take i).all isWordL=true) 0 (by simp) ?_ ?_
  ·refine Shift.weak ?_
   simp only [wk,go_sem,List.length_map]
   try rfl
  rintro i ⟨g1,g2⟩ J hJ
  by_cases hi:i < l.length
  ·have di:decide ((i:Int) < (l.length:Int))=true:=by simp; omega
   have hfin:=fun (h:isWordL l[i]=true)=>hJ (i+1) ⟨by omega,by rw [List.take_succ_eq_append_getElem hi,List.all_append,g2]; simp [h]⟩ (by omega)
   have p1:=strs_get l i hi
   have hw:=isWordX_pc l[i] (by have:=hle _ (List.getElem_mem hi); omega)
   have hbad:isWordL l[i]=false→l.all isWordL=false:=fun h=>by
    rw [List.all_eq_false]
    exact ⟨_,List.getElem_mem hi,by simp [h]⟩
   generalize l[i]=y at *
   clear hJ
   cases hy:isWordL y with
   | true =>
    have hfin:=hfin hy
    rw [hy] at hw
    refine goB (N:=42) Tryz.ntmps152 300 ?_
    simp only [go_sem,di,p1,List.length_map]
    repeat refine And.intro (by first | omega | rfl | (simp; done) | (simp; omega)) ?_
    refine pcall1 (hw) rfl (N:=42) Tryz.ntmps152 rfl (goB (N:=42) Tryz.ntmps152 300 ?_)
    simp only [go_sem]
    repeat refine And.intro (by first | omega | rfl | (simp; done) | (simp; omega)) ?_
    rw [show (i:Int)+1=((i+1:Nat):Int) by omega]
    refine ainv hfin (Shift.weakS ?_ rfl)
    simp only [wk,go_sem]
   | false =>
    rw [hbad hy,if_neg (by simp)]
    rw [hy] at hw
    refine goB (N:=42) Tryz.ntmps152 300 ?_
    simp only [go_sem,di,p1,List.length_map]
    repeat refine And.intro (by first | omega | rfl | (simp; done) | (simp; omega)) ?_
    refine pcall1 (hw) rfl (N:=42) Tryz.ntmps152 rfl (goB (N:=42) Tryz.ntmps152 300 ?_)
    simp only [go_sem]
    repeat refine And.intro (by first | rfl | decide | exact .inl rfl | exact .inl trivial) ?_
    exact aretc [.cell 2 233,.tmp 3] rfl [_,_] ⟨by simp only [go_sem,sideIs],rfl,trivial⟩ ⟨rfl,rfl⟩
  ·have di:decide ((i:Int) < (l.length:Int))=false:=by simp; omega
   rw [List.take_of_length_le (by omega)] at g2
   rw [g2,if_pos rfl]
   clear hJ
   refine goB (N:=42) Tryz.ntmps152 300 ?_
   simp only [go_sem,di]
   repeat refine And.intro (by first | rfl | decide | exact .inl rfl | exact .inl trivial) ?_
   exact aretc [.cell 2 233,.tmp 3] rfl [_,_] ⟨by simp only [go_sem,sideIs],rfl,trivial⟩ ⟨rfl,rfl⟩
end Go.Proofs.YtnfkjpihaficbaaGreatDoor
