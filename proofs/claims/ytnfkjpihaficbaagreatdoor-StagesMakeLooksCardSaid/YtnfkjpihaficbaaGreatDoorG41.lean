/- slices.SortFunc at looks, at most 12 of them. Own work of this seat. -/
import Derived.Test.YtnfkjpihaficbaaGreatDoorG40
set_option maxRecDepth 100000
set_option linter.unusedSimpArgs false
set_option linter.unusedVariables false
namespace Go.Proofs.YtnfkjpihaficbaaGreatDoor
open Go Go.Av Go.RowKit
theorem byElement_pc (a b:El):Pc Tryz.prog 55 [elA a,elA b] (· = .int .i64 (elCmp a b)):=by
 have ho:=or_pc (cmpI a.kind b.kind) (Lib.compareBytes a.name b.name)
 simp only [elA]
 refine pc_intro (ct_intro Tryz.func55 rfl Tryz.ntmps55 hB55 (by simp) fun h ρ w=>goB (N:=17) Tryz.ntmps55 300 ?_)
 simp only [go_sem]
 refine adraw [.int .i64 (cmpI a.kind b.kind),.int .i64 (Lib.compareBytes a.name b.name),.int .i64 (elCmp a b)] mixed (by decide) (N:=17) Tryz.ntmps55 (by decide) 100 ?_
 simp only [go_sem]
 repeat refine And.intro (by first | exact (cmp_int_pc _ _).at | exact (compare_str_pc _ _).at | exact ho.at | omega | rfl | (simp; done) | (simp; omega)) ?_
 refine goB (N:=17) Tryz.ntmps55 300 ?_
 simp only [go_sem]
 exact aret [4] rfl ⟨rfl,rfl⟩
def lookA (y:Lk):AV:=.agg [.int .i64 y.el.kind,.str y.el.name,.str y.facet,.str y.value]
theorem lookA_get (l:List Lk) (i:Nat) (h:i < l.length):(l.map lookA).getD i .any=.agg [.int .i64 l[i].el.kind,.str l[i].el.name,.str l[i].facet,.str l[i].value]:=by simp [List.getD,h,lookA]
theorem lookA_set (l:List Lk) (i:Nat) (x:Lk):(l.map lookA).set i (.agg [.int .i64 x.el.kind,.str x.el.name,.str x.facet,.str x.value])=(l.set i x).map lookA:=by rw [List.map_set]; rfl
theorem lookA_frz:∀ l:List Lk,(flat (l.map lookA)).all Av.frozen=true
 | []=>rfl
 | a :: l=>by simp only [List.map_cons,flat,lookA,cellsOf,List.cons_append,List.nil_append,List.all_cons,Av.frozen,lookA_frz l,Bool.and_self]
def lk00:Lk:=⟨⟨0,[]⟩,[],[]⟩
theorem atLk {q:List Lk} {i:Nat} (h:i < q.length):q.getD i lk00=q[i]:=by simp [List.getD,h]
theorem byLook_pc (a b:Lk):Pc Tryz.prog 123 [lookA a,lookA b] (· = .int .i64 (kCmp (lkey a) (lkey b))):=by
 have hb:=byElement_pc a.el b.el
 have ho:=or_pc (elCmp a.el b.el) (Lib.compareBytes a.facet b.facet)
 simp only [elA] at hb
 simp only [lookA]
 refine pc_intro (ct_intro Tryz.func123 rfl Tryz.ntmps123 hB123 (by simp) fun h ρ w=>goB (N:=17) Tryz.ntmps123 300 ?_)
 simp only [go_sem]
 refine adraw [.int .i64 (elCmp a.el b.el),.int .i64 (Lib.compareBytes a.facet b.facet),.int .i64 (kCmp (lkey a) (lkey b))] mixed (by decide) (N:=17) Tryz.ntmps123 (by decide) 100 ?_
 simp only [go_sem]
 repeat refine And.intro (by first | exact hb.at | exact (compare_str_pc _ _).at | exact ho.at | omega | rfl | (simp; done) | (simp; omega)) ?_
 refine goB (N:=17) Tryz.ntmps123 300 ?_
 simp only [go_sem]
 exact aret [4] rfl ⟨rfl,rfl⟩
theorem swapLk_perm {q l:List Lk} (hq:q.Perm l) {i j:Nat} (h1:i < q.length) (h2:j < q.length):((q.set i q[j]).set j q[i]).Perm l:=(List.set_set_perm h1 h2).trans hq
theorem set_getD {s:List Blk} {bid:Nat} (h:bid < s.length) (b:Blk):(s.set bid b).getD bid .dead=b:=by simp [List.getD,h]
def SortedLk (l:List Lk) (bid:Nat) (s:List Blk) (r:AV) (s':List Blk):Prop:=r=.tup []∧∃ l':List Lk,s'=s.set bid (.arr 4 (l'.map lookA))∧l'.Perm l∧l'.Pairwise fun x y=>¬ lkLt y x
set_option maxHeartbeats 1000000 in
theorem insertionLk (l:List Lk) (s:List Blk) (bid:Nat) (hb:bid < s.length) (hl:l.length < 1000000) :
  Ct Tryz.prog 226 [.sl bid 0 l.length l.length,.int .i64 0,.int .i64 l.length,.fn (.func 123) []] (s.set bid (.arr 4 (l.map lookA))) (SortedLk l bid s):=by
 have hg:∀ b,(s.set bid b).getD bid .dead=b:=set_getD hb
 have hss:∀ a b:Blk,(s.set bid a).set bid b=s.set bid b:=fun a b=>by simp
 refine ct_intro Tryz.func226 rfl Tryz.ntmps226 hB226 (by simp) fun h ρ w=>goB (N:=53) Tryz.ntmps226 300 ?_
 simp only [go_sem]
 refine aloop (ι:=Nat × List Lk) (fun y=>l.length+1 - y.1) (fun y=>[(8,.int .i64 y.1),(3,.fn (.func 123) []),(2,.int .i64 l.length),(1,.int .i64 0),(0,.sl bid 0 l.length l.length)]) (fun y=>s.set bid (.arr 4 (y.2.map lookA)))
  (fun y=>1 ≤ y.1∧y.2.Perm l∧Sorted0 lkLt lk00 y.2 y.1) (1,l) ⟨by simp,.refl _,sorted0_one _⟩ ?_ ?_
 ·refine Shift.weakS ?_ rfl
  simp only [wk,go_sem]
 ·rintro ⟨i,q⟩ ⟨g1,g2,g3⟩ J hJ
  simp only at g1 g2 g3 hJ ⊢
  by_cases gi:i < l.length
  ·have di:decide ((i:Int) < (l.length:Int))=true:=by simp; omega
   refine goB (N:=53) Tryz.ntmps226 300 ?_
   simp only [go_sem,di]
   refine aloop (ι:=Nat × List Lk) (fun y=>y.1) (fun y=>[(9,.int .i64 y.1),(8,.int .i64 i),(3,.fn (.func 123) []),(2,.int .i64 l.length),(1,.int .i64 0),(0,.sl bid 0 l.length l.length)]) (fun y=>s.set bid (.arr 4 (y.2.map lookA)))
    (fun y=>y.1 ≤ i∧y.2.Perm l∧InsI lkLt lk00 y.2 i y.1) (i,q) ⟨by simp,g2,ins_start g3⟩ ?_ ?_
   ·refine Shift.weakS ?_ rfl
    simp only [wk,go_sem]
   ·rintro ⟨j,p⟩ ⟨k2,k3,k4⟩ K hK
    simp only at k2 k3 k4 hK ⊢
    have hq:=k3.length_eq
    by_cases hja:0 < j
    ·have dj:decide ((j:Int) > 0)=true:=by simp; omega
     have e1:((j:Int) - 1).toNat=j - 1:=by omega
     have p1:=lookA_get p j (by omega)
     have p2:=lookA_get p (j - 1) (by omega)
     have hc:=byLook_pc (p[j]'(by omega)) (p[j - 1]'(by omega))
     simp only [lookA] at hc
     refine goB (N:=53) Tryz.ntmps226 300 ?_
     simp only [go_sem]
     refine adraw [.int .i64 (kCmp (lkey (p[j]'(by omega))) (lkey (p[j - 1]'(by omega))))] mixed (by decide) (N:=53) Tryz.ntmps226 (by decide) 100 ?_
     cases dc:decide (kCmp (lkey (p[j]'(by omega))) (lkey (p[j - 1]'(by omega))) < 0) with
     | true =>
      have hlt:lkLt (p.getD j lk00) (p.getD (j - 1) lk00):=by
       rw [atLk (by omega),atLk (by omega)]
       exact kCmp_lt.1 (of_decide_eq_true dc)
      have p3:=lookA_get (p.set j (p[j - 1]'(by omega))) (j - 1) (by simp; omega)
      have s1:=lookA_set p j (p[j - 1]'(by omega))
      have s2:=lookA_set (p.set j (p[j - 1]'(by omega))) (j - 1) (p[j]'(by omega))
      have hin:=ins_swap lk_asymm k4 hja (by omega) hlt
      rw [atLk (by omega),atLk (by omega)] at hin
      have hfin:=hK (j - 1,_) ⟨by simp only; omega,swapLk_perm k3 (i:=j) (j:=j - 1) (by omega) (by omega),hin⟩ (by simp only; omega)
      simp only [go_sem,dj,e1,p1,p2,dc,List.length_map,hg]
      repeat refine And.intro (by first | exact hc.at | omega | rfl | (simp; done) | (simp; omega)) ?_
      refine goB (N:=53) Tryz.ntmps226 300 ?_
      simp only [go_sem]
      refine adrawS [] mixed (by decide) (N:=53) Tryz.ntmps226 (by decide) 100 ?_
      simp only [go_sem,e1,p1,p2,p3,s1,s2,List.length_map,List.length_set,hg,hss]
      repeat refine And.intro (by first | omega | rfl | (simp; done) | (simp; omega)) ?_
      refine goB (N:=53) Tryz.ntmps226 300 ?_
      simp only [go_sem]
      repeat refine And.intro (by first | omega | rfl | (simp; done) | (simp; omega)) ?_
      rw [show (j:Int) - 1=((j - 1:Nat):Int) by omega]
      refine ainv hfin (Shift.weakS ?_ rfl)
      simp only [wk,go_sem]
     | false =>
      have hlt:¬ lkLt (p.getD j lk00) (p.getD (j - 1) lk00):=by
       rw [atLk (by omega),atLk (by omega)]
       exact fun h=>of_decide_eq_false dc (kCmp_lt.2 h)
      have hfin:=hJ (i+1,p) ⟨by simp only; omega,k3,ins_stop lk_ntrans k4 hja hlt⟩ (by simp only; omega)
      simp only [go_sem,dj,e1,p1,p2,dc,List.length_map,hg]
      repeat refine And.intro (by first | exact hc.at | omega | rfl | (simp; done) | (simp; omega)) ?_
      refine goB (N:=53) Tryz.ntmps226 300 ?_
      simp only [go_sem]
      repeat refine And.intro (by first | omega | rfl | (simp; done) | (simp; omega)) ?_
      rw [show (i:Int)+1=((i+1:Nat):Int) by omega]
      refine ainv hfin (Shift.weakS ?_ rfl)
      simp only [wk,go_sem]
    ·have dj:decide ((j:Int) > 0)=false:=by simp; omega
     have hj0:j=0:=by omega
     subst hj0
     have hfin:=hJ (i+1,p) ⟨by simp only; omega,k3,ins_stop0 k4⟩ (by simp only; omega)
     refine goB (N:=53) Tryz.ntmps226 300 ?_
     simp only [go_sem]
     refine adraw [.any] mixed (by decide) (N:=53) Tryz.ntmps226 (by decide) 100 ?_
     simp only [go_sem,dj]
     repeat refine And.intro (by first | omega | rfl | (simp; done) | (simp; omega)) ?_
     refine goB (N:=53) Tryz.ntmps226 300 ?_
     simp only [go_sem]
     repeat refine And.intro (by first | omega | rfl | (simp; done) | (simp; omega)) ?_
     rw [show (i:Int)+1=((i+1:Nat):Int) by omega]
     refine ainv hfin (Shift.weakS ?_ rfl)
     simp only [wk,go_sem]
  ·have di:decide ((i:Int) < (l.length:Int))=false:=by simp; omega
   refine goB (N:=53) Tryz.ntmps226 300 ?_
   simp only [go_sem,di]
   exact aret [] rfl ⟨rfl,q,rfl,g2,sorted0_all g3 (by rw [g2.length_eq]; omega)⟩
theorem pdqLk (l:List Lk) (s:List Blk) (bid:Nat) (hb:bid < s.length) (hl:l.length ≤ 12) (lim:AV) (hlim:nr1 lim=true) :
  Ct Tryz.prog 171 [.sl bid 0 l.length l.length,.int .i64 0,.int .i64 l.length,lim,.fn (.func 123) []] (s.set bid (.arr 4 (l.map lookA))) (SortedLk l bid s):=by
 have hr:=insertionLk l s bid hb (by omega)
 have d1:decide ((l.length:Int) - 0 ≤ 12)=true:=by simp; omega
 have d2:decide ((l.length:Int) ≤ 12)=true:=by simp; omega
 refine ct_intro Tryz.func171 rfl Tryz.ntmps171 hB171 (by simp) fun h ρ w=>goB (N:=148) Tryz.ntmps171 300 ?_
 simp only [go_sem]
 refine aenter (around ?_)
 refine goB (N:=148) Tryz.ntmps171 300 ?_
 simp only [go_sem,d1,d2]
 repeat refine And.intro (by first | omega | rfl | (simp; done) | (simp; omega)) ?_
 refine acall (hr) (N:=148) Tryz.ntmps171 rfl ?_
 rintro _ _ ⟨rfl,l',rfl,h1,h2⟩
 refine goB (N:=148) Tryz.ntmps171 300 ?_
 simp only [go_sem]
 exact aret [] rfl ⟨rfl,l',rfl,h1,h2⟩
theorem by1 (x:UInt8):-9223372036854775808 ≤ (x.toNat:Int):=by omega
theorem by2 (x:UInt8):(x.toNat:Int) ≤ 9223372036854775807:=by have:=x.toNat_lt; omega
theorem by3 (x:UInt8):-9223372036854775808 ≤ 0+(x.toNat:Int):=by omega
theorem by4 (x:UInt8):0+(x.toNat:Int) ≤ 9223372036854775807:=by have:=x.toNat_lt; omega
theorem len64_pc (n:Nat) (hn:n ≤ 12):Pc Tryz.prog 222 [.int .u64 n] (fun r=>∃ m:Int,r=.int .i64 m):=by
 have d1:decide ((n:Int) ≥ 4294967296)=false:=by simp; omega
 have d2:decide ((n:Int) ≥ 65536)=false:=by simp; omega
 have d3:decide ((n:Int) ≥ 256)=false:=by simp; omega
 refine pc_intro (ct_intro Tryz.func222 rfl Tryz.ntmps222 hB222 (by simp) fun h ρ w=>goB (N:=25) Tryz.ntmps222 300 ?_)
 simp only [go_sem,d1,d2,d3]
 repeat refine And.intro (by first | omega | exact by1 _ | exact by2 _ | exact by3 _ | exact by4 _ | exact Int.ofNat_lt.2 (Nat.lt_of_lt_of_le (by omega:n < 256) (by decide))) ?_
 exact aret [2] rfl ⟨⟨_,rfl⟩,rfl⟩
theorem len_pc (n:Nat) (hn:n ≤ 12):Pc Tryz.prog 160 [.int .u64 n] (fun r=>∃ m:Int,r=.int .i64 m):=by
 refine pc_intro (ct_intro Tryz.func160 rfl Tryz.ntmps160 hB160 (by simp) fun h ρ w=>goB (N:=8) Tryz.ntmps160 300 ?_)
 simp only [go_sem]
 refine pcall (len64_pc n hn) rfl (N:=8) Tryz.ntmps160 rfl ?_
 rintro _ ⟨m,rfl⟩
 refine goB (N:=8) Tryz.ntmps160 300 ?_
 simp only [go_sem]
 exact aret [2] rfl ⟨⟨m,rfl⟩,rfl⟩
theorem wrapU (n:Nat) (h:n ≤ 12):IntKind.u64.wrap (n:Int)=(n:Int):=by
 rcases (by omega:n=0∨n=1∨n=2∨n=3∨n=4∨n=5∨n=6∨n=7∨n=8∨n=9∨n=10∨n=11∨n=12) with rfl | rfl | rfl | rfl | rfl | rfl | rfl | rfl | rfl | rfl | rfl | rfl | rfl <;> decide
theorem sortLk (l:List Lk) (s:List Blk) (bid:Nat) (hb:bid < s.length) (hl:l.length ≤ 12) :
  Ct Tryz.prog 122 [.sl bid 0 l.length l.length,.fn (.func 123) []] (s.set bid (.arr 4 (l.map lookA))) (SortedLk l bid s):=by
 have hg:∀ b,(s.set bid b).getD bid .dead=b:=set_getD hb
 refine ct_intro Tryz.func122 rfl Tryz.ntmps122 hB122 (by simp) fun h ρ w=>goB (N:=14) Tryz.ntmps122 300 ?_
 simp only [go_sem,hg,List.length_map]
 repeat refine And.intro (by first | omega | exact wrapU _ hl | rfl | (simp; done) | (simp; omega)) ?_
 refine pcall (len_pc l.length hl) rfl (N:=14) Tryz.ntmps122 rfl ?_
 rintro _ ⟨m,rfl⟩
 refine goB (N:=14) Tryz.ntmps122 300 ?_
 simp only [go_sem]
 refine acall (pdqLk l s bid hb hl (.int .i64 m) rfl) (N:=14) Tryz.ntmps122 rfl ?_
 rintro _ _ ⟨rfl,l',rfl,h1,h2⟩
 refine goB (N:=14) Tryz.ntmps122 300 ?_
 simp only [go_sem]
 exact aret [] rfl ⟨rfl,l',rfl,h1,h2⟩
end Go.Proofs.YtnfkjpihaficbaaGreatDoor
set_option linter.unusedSectionVars false
namespace Go.Av
open Go Go.RowKit
variable [Tr]
section
variable {h:Mem} {ρ:Own} {sto:List Blk} {w:World} {P:Program}
theorem leftOf_mem {en:Array MapEntry} {clock:Nat} {es:List (AV × AV)} {seen:List Nat} (ho:EnOk en clock es) {e:MapEntry} (he:e ∈ (leftOf en seen.toArray).toList):∃ p:Nat,en.toList[p]? = some e∧(ixs 0 es)[p]? = some e.born∧e.born ∉ seen:=by
 simp only [leftOf,Array.toList_filter,List.mem_filter] at he
 obtain ⟨h1,h2⟩:=he
 obtain ⟨j,hj,e1⟩:=List.getElem_of_mem h1
 have hg:en.toList[j]? = some e:=by rw [List.getElem?_eq_getElem hj,e1]
 exact ⟨j,hg,ho.2.1 j e hg,by simpa using h2⟩
theorem leftOf_none {en:Array MapEntry} {clock:Nat} {es:List (AV × AV)} {seen:List Nat} (ho:EnOk en clock es) (hl:en.toList.length=(lvs es).length) (he:(leftOf en seen.toArray).size=0):∀ (j:Nat) (z:AV × AV),es[j]? = some z→liveK z.1=true→j ∈ seen:=by
 intro j z hj hz
 obtain ⟨p,h1,h2⟩:=ix_has (i:=0) hj hz
 rw [Nat.zero_add] at h1
 have hpl:p < en.toList.length:=by
  have:=(List.getElem?_eq_some_iff.1 h2).1
  omega
 have hb:=ho.2.1 p _ (List.getElem?_eq_getElem hpl)
 rw [h1] at hb
 have hb:=Option.some.inj hb
 have:(leftOf en seen.toArray).toList=[]:=List.eq_nil_of_length_eq_zero (by simpa using he)
 simp only [leftOf,Array.toList_filter,List.filter_eq_nil_iff] at this
 have:=this _ (List.getElem_mem hpl)
 rw [← hb] at this
 simpa using this
theorem next_ok {x:Operand} {o:Oper} {e:Env} {a:Act} (ho:o.op=.next x false) (m:Mine h ρ sto w) (he:EnvOk h ρ sto e a) {id mid n:Nat} {seen:List Nat} {es:List (AV × AV)} (hx:ev e x=.mp id)
  (hb:sto[id]? = some (.it mid n seen)) (hb2:sto[mid]? = some (.mp es)) (hn:es.length=n) :
  ((∀ (j:Nat) (z:AV × AV),es[j]? = some z→liveK z.1=true→j ∈ seen)∧Okv h ρ sto w ((execOp a.eval o).run P w) (.tup [.bool false]) sto) ∨
  ∃ j z,j ∉ seen∧es[j]? = some z∧liveK z.1=true∧Okv h ρ sto w ((execOp a.eval o).run P w) (.tup [.bool true,z.1,z.2]) (sto.set id (.it mid n (seen++[j]))):=by
 have hv:=ev_ok he x
 rw [hx] at hv
 obtain ⟨r',g,en,clock,hu,hr,i2,i4,i5,hg,o2,o3,o4,o5⟩:=it_own m hb hb2 hv
 have hcl:clock=n:=by rw [o5.1,hn]
 obtain ⟨ty,hrun⟩:∃ ty,(execOp a.eval o).run P w=((Instr.next (a.eval x) false ty).run P w).andThen fun v w'=>.ok (.value v) w':=⟨o.type,by simp [execOp,ho]⟩
 rw [hrun,hu]
 rcases run_next_at (P:=P) w ty r' g n n seen.toArray en clock i2 o2 (fun y hy=>by
   obtain ⟨j,hj,e1⟩:=List.getElem_of_mem hy
   have hg:=List.getElem?_eq_getElem hj
   have:=ix_lt (o5.2.1 j _ hg)
   rw [e1] at this
   omega) (Nat.le_refl _) with ⟨h1,h2⟩ | ⟨y,hy,w1,hw1,h2⟩
 ·refine .inl ⟨leftOf_none o5 o3 h1,okv_pure m (u:=.tuple #[.bool false]) (by rw [h2]; rfl) (.tup [_] [_] (.cons (.bool _) .nil))⟩
 ·obtain ⟨p,hj,hborn,hns⟩:=leftOf_mem o5 hy
  obtain ⟨_,z,q1,q2,q3⟩:=ix_get hborn
  rw [Nat.sub_zero] at q1
  obtain ⟨z1,z2⟩:=o4 p z y q2 hj
  have hjs:y.born < es.length:=(List.getElem?_eq_some_iff.1 q1).1
  refine .inr ⟨y.born,z,hns,q1,q3,?_⟩
  have sm:Same w w1:=by
   rcases hw1 with rfl | rfl
   ·exact Same.refl _
   ·exact Same.drew _
  have m1:=m.same sm
  have L1:Later h ρ sto w h ρ sto w1:=Later.same sm
  have hr1:w1.heap[r']? = some (.mapIter (some g) n seen.toArray n):=by
   rcases hw1 with rfl | rfl <;> exact i2
  have hlt:r' < w1.heap.size:=(Array.getElem?_eq_some_iff.1 hr1).1
  obtain ⟨m2,L2⟩:=m1.write (w':=ChangeMaps.setBlock w1 r' (.mapIter (some g) n (seen.toArray.push y.born) clock)) hb (b':=.it mid n (seen++[y.born])) hr trivial rfl rfl ⟨rfl,Tr.same rfl⟩ (by simp [ChangeMaps.setBlock]) (fun k hk=>by
    simp [ChangeMaps.setBlock,Array.getElem?_setIfInBounds_ne (Ne.symm hk)]) (by
    refine ⟨r',g,hr,by simp [ChangeMaps.setBlock,hlt,hcl],?_,?_,?_⟩
    ·have hne:mid ≠ id:=fun e=>by rw [e,hb] at hb2; cases hb2
     refine ⟨rfl,?_⟩
     simp only [LfC,List.getElem?_set_ne (Ne.symm hne),hb2]
     exact ⟨g,hg,rfl⟩
    ·rw [List.nodup_append]
     exact ⟨i4,by simp,fun a ha b hb=>by simp at hb; subst hb; exact fun e=>hns (e ▸ ha)⟩
    ·intro i hi
     rcases List.mem_append.1 hi with hi | hi
     ·exact i5 i hi
     ·simp at hi; omega)
  have L:=L1.trans L2
  exact ⟨_,_,_,_,.inl (by rw [h2]; rfl),m2,L,.tup [_,_,_] [_,_,_] (.cons (.bool _) (.cons ((z1.thaw (fun _ _ _ x=>x)).mono L.hle L.keep) (.cons (z2.mono L.hle L.keep) .nil)))⟩
end
theorem anext {c:Cx} {k:List It} {e:Env} {s:List Blk} {all os:List Oper} {o:Oper} {x:Operand} {id mid n:Nat} {seen:List Nat} {es:List (AV × AV)} (ho:o.op=.next x false) (hx:ev e x=.mp id)
  (hb:s.getD id .dead=.it mid n seen) (hb2:s.getD mid .dead=.mp es) (hn:es.length=n)
  (hend:(∀ (j:Nat) (z:AV × AV),es[j]? = some z→liveK z.1=true→j ∈ seen)→AWp c (.ops all os :: k) (put e o.dst (.tup [.bool false])) s)
  (hstep:∀ (j:Nat) (z:AV × AV),j ∉ seen→es[j]? = some z→liveK z.1=true→AWp c (.ops all os :: k) (put e o.dst (.tup [.bool true,z.1,z.2])) (s.set id (.it mid n (seen++[j])))):AWp c (.op all o os :: k) e s:=by
 intro a w hsim
 obtain ⟨h,ρ,hm,hl,he,hdf,hsz,hX⟩:=hsim
 show _→_
 intro hd
 rcases next_ok (P:=c.P) ho hm he hx (sto_it hb) (sto_mp hb2) hn with ⟨h1,h2⟩ | ⟨j,z,h1,h2,h4,h3⟩
 ·exact okv_go hl he hdf hsz hm hX hd h2 (hend h1) hd
 ·exact okv_go hl he hdf hsz hm hX hd h3 (hstep j z h1 h2 h4) hd
end Go.Av
namespace Go.Proofs.YtnfkjpihaficbaaGreatDoor
open Go Go.Av Go.RowKit
theorem fm_congr {α β:Type} {f g:α→Option β}:∀ {l:List α},(∀ x ∈ l,f x=g x)→l.filterMap f=l.filterMap g
 | [],_=>rfl
 | a :: l,h=>by
  rw [List.filterMap_cons,List.filterMap_cons,h a (by simp),fm_congr (l:=l) fun x hx=>h x (by simp [hx])]
theorem pigeonN:∀ (n:Nat) (l:List Nat),l.Nodup→(∀ x ∈ l,x < n)→l.length ≤ n
 | 0,l,_,h=>by
  cases l with
  | nil=>simp
  | cons a l=>exact absurd (h a (by simp)) (by omega)
 | n+1,l,hn,h=>by
  have h1:=pigeonN n (l.erase n) (hn.erase n) (fun x hx=>by
   have h2:=h x (List.mem_of_mem_erase hx)
   have h3:x ≠ n:=fun e=>by
    subst e
    exact (hn.not_mem_erase) hx
   omega)
  have h4:=List.length_erase (a:=n) (l:=l)
  split at h4 <;> omega
def atL (es:LMap) (seen:List Nat):List Lk:=seen.filterMap fun i=>(es[i]?.join).map fun y=>⟨y.1.1,y.1.2,y.2⟩
theorem atL_perm (es:LMap):∀ seen:List Nat,seen.Perm (List.range es.length)→(atL es seen).Perm (lvL es):=by
 intro seen hp
 have h1:(atL es seen).Perm (atL es (List.range es.length)):=hp.filterMap _
 refine h1.trans (.of_eq ?_)
 unfold atL lvL
 have key:∀ (l pre:LMap),(List.range' pre.length l.length).filterMap (fun i=>(((pre++l)[i]?).join).map fun y=>(⟨y.1.1,y.1.2,y.2⟩:Lk))=l.filterMap fun x=>x.map fun y=>⟨y.1.1,y.1.2,y.2⟩:=by
  intro l
  induction l with
  | nil=>intro pre; rfl
  | cons a l ih =>
   intro pre
   have h:=ih (pre++[a])
   rw [List.append_assoc,List.singleton_append,List.length_append,List.length_singleton] at h
   rw [List.length_cons,List.range'_succ,List.filterMap_cons,List.filterMap_cons,h]
   have:(pre++a :: l)[pre.length]? = some a:=by simp
   rw [this]
   rfl
 have:=key es []
 rw [List.nil_append] at this
 rw [List.range_eq_range']
 exact this
theorem atL_all {es:LMap} {seen:List Nat} (hn:seen.Nodup) (hlt:∀ i ∈ seen,∃ y,es[i]? = some (some y)) (hall:∀ i y,es[i]? = some (some y)→i ∈ seen):(atL es seen).Perm (lvL es):=by
 have hl:atL es seen=seen.filterMap fun i=>(es[i]?.join).map fun y=>(⟨y.1.1,y.1.2,y.2⟩:Lk):=rfl
 have hp:((List.range es.length).filter (fun i=>decide (i ∈ seen))).Perm seen:=by
  rw [List.perm_ext_iff_of_nodup ((List.nodup_range).filter _) hn]
  intro i
  simp only [List.mem_filter,List.mem_range,decide_eq_true_eq]
  constructor
  ·exact fun h=>h.2
  ·intro h
   obtain ⟨y,hy⟩:=hlt i h
   exact ⟨(List.getElem?_eq_some_iff.1 hy).1,h⟩
 have h1:(atL es seen).Perm (atL es ((List.range es.length).filter (fun i=>decide (i ∈ seen)))):=(hp.filterMap _).symm
 refine h1.trans ?_
 have h2:atL es ((List.range es.length).filter (fun i=>decide (i ∈ seen)))=atL es (List.range es.length):=by
  unfold atL
  rw [List.filterMap_filter]
  refine fm_congr ?_
  intro i hi
  by_cases hs:i ∈ seen
  ·simp [hs]
  ·simp only [hs,decide_false]
   cases hq:es[i]? with
   | none=>rfl
   | some o =>
    cases o with
    | none=>rfl
    | some y=>exact absurd (hall i y hq) hs
 rw [h2]
 exact atL_perm es _ (.refl _)
theorem lkM_at {es:LMap} {j:Nat} {z:AV × AV} (h:(lkM es)[j]? = some z) (hz:liveK z.1=true):∃ y,es[j]? = some (some y)∧z=(lkA y.1,.str y.2):=by
 unfold lkM at h
 rw [List.getElem?_map,Option.map_eq_some_iff] at h
 obtain ⟨o,h1,rfl⟩:=h
 cases o with
 | none=>cases hz
 | some y=>exact ⟨y,h1,rfl⟩
theorem atL_snoc {es:LMap} {seen:List Nat} {j:Nat} {y:(El × List UInt8) × List UInt8} (h:es[j]? = some (some y)):atL es (seen++[j])=atL es seen++[⟨y.1.1,y.1.2,y.2⟩]:=by
 unfold atL
 rw [List.filterMap_append]
 simp [h]
theorem pigeonE {es:LMap} {seen:List Nat} (hn:seen.Nodup) (hlt:∀ i ∈ seen,∃ y,es[i]? = some (some y)):seen.length ≤ es.length:=by
 exact pigeonN _ _ hn fun i hi=>by
  obtain ⟨y,hy⟩:=hlt i hi
  exact (List.getElem?_eq_some_iff.1 hy).1
set_option maxHeartbeats 4000000 in
theorem sorted_ct (es:LMap) (hu:Tuniq es) (hl:es.length ≤ 12) (s:List Blk) (id:Nat) (hid:s[id]? = some (.mp (lkM es))) (hT:s.all (lowB s.length)=true) :
  Ct Tryz.prog 67 [.mp id] s (fun r s'=>∃ l seen,LooksOf es l∧r=.sl (s.length+1) 0 l.length l.length∧s'=s++[.it id es.length seen,.arr 4 (l.map lookA)]):=by
 have h0:=gt_old hid
 have h00:=gd_of hid
 have hil:=(List.getElem?_eq_some_iff.1 hid).1
 have hml:(lkM es).length=es.length:=by simp [lkM]
 refine ct_intro Tryz.func67 rfl Tryz.ntmps67 hB67 (by simp) fun h ρ w=>goB (N:=25) Tryz.ntmps67 300 ?_
 simp only [go_sem,h00,hml]
 refine aloop (ι:=List Nat) (fun y=>es.length - y.length)
  (fun y=>[(7,.mp s.length),(3,.sl (s.length+1) 0 (atL es y).length (atL es y).length)])
  (fun y=>s++[.it id es.length y,.arr 4 ((atL es y).map lookA)]) (fun y=>y.Nodup∧(∀ i ∈ y,∃ v,es[i]? = some (some v))∧(atL es y).length ≤ y.length) [] ⟨.nil,by simp,by simp [atL]⟩ ?_ ?_
 ·refine Shift.trans (Shift.nilsl 3 4 rfl) (Shift.weakS ?_ ?_)
  ·simp only [wk,go_sem,List.length_append,List.length_cons,List.length_nil]
   simp [atL]
  ·simp [atL]
 rintro seen ⟨n1,n2,n3⟩ J hJ
 try simp only at n1 n2 n3 hJ ⊢
 have hpg:=pigeonE n1 n2
 refine goB (N:=25) Tryz.ntmps67 3 ?_
 simp only [go_sem]
 refine anext (id:=s.length) (mid:=id) (es:=lkM es) rfl rfl gt_at0 (h0 _) hml ?_ ?_
 ·intro hall
  have hs:=sortLk (atL es seen) (s++[.it id es.length seen,.arr 4 ((atL es seen).map lookA)]) (s.length+1) (by simp) (by omega)
  unfold SortedLk at hs
  simp only [st_at,List.set_cons_succ,List.set_cons_zero] at hs
  have hp:=atL_all n1 n2 fun i y hy=>by
   refine hall i (lkA y.1,.str y.2) ?_ rfl
   unfold lkM
   rw [List.getElem?_map,hy]
   rfl
  refine goB (N:=25) Tryz.ntmps67 300 ?_
  simp only [go_sem]
  refine acall (hs) (N:=25) Tryz.ntmps67 rfl ?_
  rintro _ _ ⟨rfl,l',rfl,h1,h2⟩
  refine goB (N:=25) Tryz.ntmps67 300 ?_
  simp only [go_sem]
  exact aret [2] rfl ⟨l',seen,looksOf_sorted hu (h1.trans hp) h2,by simp only [resV,Av.get,Av.put,beq_self_eq_true,cond_true,h1.length_eq],rfl⟩
 ·intro j z hj hz hlive
  obtain ⟨y,hy,rfl⟩:=lkM_at hz hlive
  have hlast:(lkM es).getD ((seen++[j]).getLastD 0) (.any,.any)=(lkA y.1,.str y.2):=by
   rw [show (seen++[j]).getLastD 0=j by simp,List.getD_eq_getElem?_getD,hz]; rfl
  have hnd:(seen++[j]).Nodup:=by
   rw [List.nodup_append]
   exact ⟨n1,by simp,fun a ha b hb e=>hj (by rw [List.mem_singleton.1 hb] at e; rw [← e]; exact ha)⟩
  have hlt2:∀ x ∈ seen++[j],∃ v,es[x]? = some (some v):=fun x hx=>by
   rcases List.mem_append.1 hx with hx | hx
   ·exact n2 x hx
   ·rw [List.mem_singleton.1 hx]; exact ⟨y,hy⟩
  have hpg2:=pigeonE hnd hlt2
  rw [List.length_append,List.length_singleton] at hpg2
  have hat:=atL_snoc (seen:=seen) hy
  have hfin:=hJ (seen++[j]) ⟨hnd,hlt2,by rw [hat]; simp; omega⟩ (by simp; omega)
  simp only [hat,List.length_append,List.length_cons,List.length_nil,List.map_append,List.map_cons,List.map_nil,Nat.zero_add,lookA] at hfin
  obtain ⟨⟨⟨kk,nn⟩,ff⟩,vv⟩:=y
  simp only [lkA] at hlast hfin ⊢
  refine goB (N:=25) Tryz.ntmps67 300 ?_
  simp only [go_sem,hlast,h0,gt_at,gt_at0,st_at,st_at0,List.append_assoc,List.length_map]
  repeat refine And.intro (by first | omega | rfl | kernel_rfl | exact .inl rfl | exact .inl trivial | (simp; done) | (simp; omega)) ?_
  refine ainv hfin ?_
  refine shift_lowE s [_,_] [_] rfl (by simp) hT ?_ ?_
  ·rw [List.all_cons,List.all_cons,List.all_nil,Bool.and_true,Bool.and_eq_true]
   refine ⟨by simp [lowB]; omega,?_⟩
   simp only [lowB,flat_append,List.all_append,low_all (lookA_frz _),flat,cellsOf,lowC,Av.frozen,List.append_nil,List.cons_append,List.nil_append,List.all_cons,List.all_nil,Bool.and_self]
  ·simp only [wkl,lowV,lowC,Av.get,go_sem]
   repeat (first | rfl | (simp; done) | (simp; omega) | refine And.intro (by first | rfl | (simp; done) | (simp; omega)) ?_)
end Go.Proofs.YtnfkjpihaficbaaGreatDoor
