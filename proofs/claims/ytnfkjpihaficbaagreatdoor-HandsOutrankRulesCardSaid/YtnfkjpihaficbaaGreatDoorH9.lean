/- make, max and min, nil checks; every operation. Own work of this seat. -/
import Derived.Test.YtnfkjpihaficbaaGreatDoorH8
set_option linter.unusedSimpArgs false
set_option linter.unusedVariables false
set_option linter.unusedSectionVars false
namespace Go.Av
open Go Go.RowKit
variable [Tr]
section
variable {h:Mem} {ρ:Own} {sto:List Blk} {w:World} {P:Program} {e:Env} {a:Act}
theorem make_ok {t:TypeId} {n c:Operand} {o:Oper} (ho:o.op=.makeSlice t n c) (m:Mine h ρ sto w) (he:EnvOk h ρ sto e a) :
  Res.Sound P h ρ sto w ((execOp a.eval o).run P w) (xmake P sto (P.underlying t) (ev e n) (ev e c)):=by
 have hrun:(execOp a.eval o).run P w=((Instr.makeSlice t (a.eval n) (a.eval c)).run P w).andThen fun v w'=>.ok (.value v) w':=by
  simp [execOp,ho]
 have hn:=ev_ok he n
 have hc:=ev_ok he c
 generalize hr:(execOp a.eval o).run P w=r at *
 unfold xmake
 split
 ·rename_i el kn nn kc cc ht e1 e2
  rw [e1] at hn
  rw [e2] at hc
  rw [inv_int hn,inv_int hc] at hrun
  intro ⟨hp,hz,hrow,hone,h0,h1,h2,h3⟩
  obtain ⟨i,z,hi,his,hib,hiz,hzc,hzs⟩:=zero_info hp hz
  have hrm:=run_make (P:=P) w t el i z ht hi hiz kn kc nn cc h0 h1 (by rw [hib]; omega) h2
  rw [hrm,his] at hrun
  have hcells:RL h (Lf ρ sto) false (madeCells z.cells (cc.toNat * tsize P el)).toList (rep (zav P el) cc.toNat):=by
   have hzl:z.cells.toList.length=tsize P el:=by simpa using hzs
   have:=zeros_ok (h:=h) (ρ:=ρ) (sto:=sto) (z:=z.cells.toList) (fl:=false) cc.toNat (by omega)
   rw [hzl] at this
   unfold madeCells zav
   rw [hzc,hzs]
   simpa using this
  have honec:∀ v ∈ (madeCells z.cells (cc.toNat * tsize P el)).toList,v.oneCell'=true:=by
   refine all_one hcells ?_
   rw [List.all_eq_true] at hone ⊢
   intro x hx
   obtain ⟨k,hk,rfl⟩:=List.mem_iff_getElem.1 hx
   have hk':k < cc.toNat * (zav P el).length:=by rwa [rep_len] at hk
   have:=rep_get hk'
   rw [List.getElem?_eq_getElem hk] at this
   exact hone _ (List.mem_of_getElem? this.symm)
  have hzel:=zelem_cells (row:=isRow (P.underlying el)) hz hrow hone
  have hm:=m.push (.cells (madeCells z.cells (cc.toNat * tsize P el)) el) (.arr (tsize P el) (List.replicate nn.toNat (zelem (isRow (P.underlying el)) (zav P el)))) (some cc.toNat) (by
   refine .inr ⟨w.heap.size,cc.toNat,_,el,by simp [upd],.of (heap_alloc_new w _),size_madeCells _ _,by simp; omega,by simp only [maxLen]; omega,hp,?_,honec,?_⟩
   ·intro x hx
    rw [List.eq_of_mem_replicate hx,hzel,hz]
   ·rw [flat_rep hzel,List.length_replicate,← hz,← rep_take nn.toNat cc.toNat (by omega),hz]
    exact (hcells.take _).mono (fun _ _ _ x=>x) (fun _ _=>Lf_push))
  refine ⟨_,_,_,_,.inl hrun,hm.1,hm.2,.leaf ⟨rfl,?_⟩⟩
  simp [LfC,upd]
 ·trivial
theorem max_ok {big:Bool} {c:Call} (hf:c.callee=.builtin (bif big then .max else .min)) {o:Oper} (ho:o.op=.call c) (m:Mine h ρ sto w) (he:EnvOk h ρ sto e a) :
  Res.Sound P h ρ sto w ((execOp a.eval o).run P w) (xmax big (evs e c.args.toList)):=by
 unfold xmax
 split
 ·rename_i k x k' y hx
  obtain ⟨o1,o2,hxy,h1,h2⟩:∃ o1 o2,c.args.toList=[o1,o2]∧ev e o1=.int k x∧ev e o2=.int k' y:=by
   match hq:c.args.toList with
   | []=>rw [hq] at hx; simp [evs] at hx
   | [_]=>rw [hq] at hx; simp [evs] at hx
   | [o1,o2]=>rw [hq] at hx; simp [evs] at hx; exact ⟨o1,o2,rfl,hx.1,hx.2⟩
   | _ :: _ :: _ :: _=>rw [hq] at hx; simp [evs] at hx
  have e1:c.args.map a.eval=#[a.eval o1,a.eval o2]:=by
   apply Array.ext'; rw [Array.toList_map,hxy]; rfl
  have v1:=inv_int (by have:=ev_ok he o1; rwa [h1] at this)
  have v2:=inv_int (by have:=ev_ok he o2; rwa [h2] at this)
  by_cases hk:k=k'
  ·subst hk
   simp only [decide_true,cond_true]
   refine okv_pure m ?_ (.int _ _)
   cases big <;> simp [execOp,ho,resolve,hf,invoke,builtin,e1,v1,v2,Builtin.max_,Builtin.min_,Builtin.max2,Builtin.min2]
  ·simp only [hk,decide_false,cond_false]; trivial
 ·trivial
theorem nil_ok {x:Operand} {o:Oper} (ho:o.op=.nilCheck x) (m:Mine h ρ sto w) (he:EnvOk h ρ sto e a) :
  Res.Sound P h ρ sto w ((execOp a.eval o).run P w) (xnil sto (ev e x)):=by
 have hx:=ev_ok he x
 have key:∀ ad,a.eval x=.pointer (some ad)→(execOp a.eval o).run P w=.ok (.value (.pointer (some ad))) w:=fun ad hv=>by
  simp [execOp,ho,hv]
 unfold xnil
 split
 ·rename_i id n j off hv
  rw [hv] at hx
  split
  ·rename_i ee l hb
   intro hn
   obtain ⟨g,tot,cur,t,h1,h2,_⟩:=ptr_place m hb hx hn
   refine okv_pure m (key _ h2) ?_
   rw [← h2]; exact hx
  ·trivial
 ·rename_i ee l j off hv
  rw [hv] at hx
  obtain ⟨b,oo,vs,h1,_⟩:=inv_pin hx
  refine okv_pure m (key _ h1) ?_
  rw [← h1]; exact hx
 ·trivial
theorem delete_ok {c:Call} (hf:c.callee=.builtin .delete) {o:Oper} (ho:o.op=.call c) (m:Mine h ρ sto w) (he:EnvOk h ρ sto e a) :
  Res.Sound P h ρ sto w ((execOp a.eval o).run P w) (xdel2 P e sto c.args.toList c.argTypes.toList):=by
 have hrun:(execOp a.eval o).run P w=((Builtin.delete_ c.argTypes o.type (c.args.map a.eval)).run P w).andThen fun v w'=>.ok (.value v) w':=by
  simp [execOp,ho,resolve,hf,invoke,builtin]
 unfold xdel2
 split
 ·rename_i xm xk t ts h1 h2
  have hm:=ev_ok he xm
  have hk:=ev_ok he xk
  have e1:c.args.map a.eval=#[a.eval xm,a.eval xk]:=by
   apply Array.ext'; rw [Array.toList_map,h1]; rfl
  have hrun':(execOp a.eval o).run P w=((Builtin.delete_ #[t,o.type] o.type #[a.eval xm,a.eval xk]).run P w).andThen fun v w'=>.ok (.value v) w':=by
   rw [hrun,e1]
   have e2:c.argTypes[0]? = some t:=by rw [← Array.getElem?_toList,h2]; rfl
   simp [Builtin.delete_,e2]
  generalize a.eval xm=um at *
  generalize a.eval xk=uk at *
  generalize ev e xk=ka at *
  generalize hr:(execOp a.eval o).run P w=r at *
  unfold xdel
  split
  ·rename_i kt et ht
   split
   ·rename_i fs id hkt hmm
    rw [hmm] at hm
    cases hfl:flatT P kt with
    | true =>
     simp only [cond_true]
     unfold xdelS
     split
     ·rename_i es hb
      cases hik:isKeyS P fs.toList ka with
      | false=>trivial
      | true =>
       simp only [cond_true]
       cases hq:mfindS P fs.toList ka es 0 with
       | none=>trivial
       | some x =>
        rw [mfindS_E] at hq
        by_cases hp:eqPlain P kt=true
        ·exact del_ok m ht (sto_mp hb) hm (fun b=>check_struct hkt hp hk hik b) (fun hp en hl hr=>kf_structx (w:=w) hkt (keyE_S hkt hp hk) (keyS_fz hik) hl hr hq) hrun'
        ·cases x with
         | none=>exact fun h=>absurd h hp
         | some jv=>obtain ⟨j,v⟩:=jv; exact fun h=>absurd h hp
     ·trivial
    | false =>
     simp only [cond_false]
     unfold xdelT
     split
     ·rename_i es hb
      cases hik:isKeyT P kt ka with
      | false=>trivial
      | true =>
       simp only [cond_true]
       cases hq:mfindT P kt ka es 0 with
       | none=>trivial
       | some x =>
        rw [mfindT_E] at hq
        by_cases hp:eqPlainT P kt=true
        ·exact del_ok m ht (sto_mp hb) hm (fun b=>check_T hkt hp hk hik b) (fun hp en hl hr=>kf_structx (w:=w) hkt (keyE_T hkt hp hk) (keyT_fz hik) hl hr hq) hrun'
        ·cases x with
         | none=>exact fun h=>absurd h hp
         | some jv=>obtain ⟨j,v⟩:=jv; exact fun h=>absurd h hp
     ·trivial
   ·rename_i d id hns hkt hmm
    rw [hmm] at hm
    unfold xdelB
    split
    ·rename_i es hb
     cases hik:isKey d ka with
     | false=>trivial
     | true =>
      simp only [cond_true]
      obtain ⟨ik,rk⟩:=isKey_ok hik hk
      cases hq:mfind d ka es 0 with
      | none=>trivial
      | some x=>exact del_ok m ht (sto_mp hb) hm (fun b=>MapKept.run_checkKey hkt ik b 9999) (fun _ en hl hr=>kf_leafx (w:=w) hkt hik hk hl hr hq) hrun'
    ·trivial
   ·trivial
  ·trivial
 ·trivial
theorem clear_ok {c:Call} (hf:c.callee=.builtin .clear) {o:Oper} (ho:o.op=.call c) (m:Mine h ρ sto w) (he:EnvOk h ρ sto e a) :
  Res.Sound P h ρ sto w ((execOp a.eval o).run P w) (xclear2 P e sto c.args.toList c.argTypes.toList):=by
 have hrun:(execOp a.eval o).run P w=((Builtin.clear_ c.argTypes o.type (c.args.map a.eval)).run P w).andThen fun v w'=>.ok (.value v) w':=by
  simp [execOp,ho,resolve,hf,invoke,builtin]
 unfold xclear2
 split
 ·rename_i x t h1 h2
  have hx:=ev_ok he x
  have e1:c.args.map a.eval=#[a.eval x]:=by
   apply Array.ext'; rw [Array.toList_map,h1]; rfl
  have e2:c.argTypes=#[t]:=by apply Array.ext'; rw [h2]
  rw [e1,e2] at hrun
  generalize a.eval x=vx at *
  generalize hr:(execOp a.eval o).run P w=r at *
  split
  ·rename_i el ht
   split
   ·rename_i id off len cap hv
    rw [hv] at hx
    have hl:=(inv_sl hx).2
    unfold xclearB
    split
    ·rename_i ee l hb
     have hb':=sto_get hb
     intro ⟨hp,hz,hrow,hone,h3,h4,h5⟩
     subst h3
     have hid:=(List.getElem?_eq_some_iff.1 hb').1
     simp only [LfC,hb'] at hl
     obtain ⟨i,z,hi,his,hib,hiz,hzc,hzs⟩:=zero_info hp hz
     have noop:∀ ad c',vx=.slice ad 0 c'→len=0→Okv h ρ sto w r (.tup []) (sto.set id (.arr (tsize P el) (splice' l off (List.replicate len (zelem (isRow (P.underlying el)) (zav P el)))))):=by
      intro ad c' hvx hl0
      subst hvx hl0
      have hst:splice' l off (List.replicate 0 (zelem (isRow (P.underlying el)) (zav P el)))=l:=by simp [splice']
      rw [hst,set_same hb']
      refine ⟨.tuple #[],_,_,_,.inl ?_,m,.refl ..,.tup [] [] .nil⟩
      cases ad <;> simp [hrun,Builtin.clear_,run_underlying ht]
     rcases hl.2 h4 with ⟨rfl,h5',ad,rfl⟩ | ⟨g,tot,h5',rfl,h7⟩
     ·exact noop _ _ rfl rfl
     ·rcases m.own id _ hb' with ⟨_,hno⟩ | ⟨g',tot',cur,tt,j3,j4,j5,j6,j7,j8,j9,j10,j11⟩
      ·simp [hno] at h5'
      ·rw [j3] at h5'
       simp only [Option.some.injEq,Prod.mk.injEq] at h5'
       obtain ⟨rfl,rfl⟩:=h5'
       by_cases hl0:len=0
       ·subst hl0; exact noop _ _ rfl rfl
       have hzel:=zelem_cells (row:=isRow (P.underlying el)) hz hrow hone
       have hzl:z.cells.toList.length=tsize P el:=by simpa using hzs
       have hcells:RL h (Lf ρ sto) false (Builtin.zeroCells z.cells len).toList (flat (List.replicate len (zelem (isRow (P.underlying el)) (zav P el)))):=by
        have:=zeros_ok (h:=h) (ρ:=ρ) (sto:=sto) (z:=z.cells.toList) (fl:=false) len (by omega)
        rw [hzl] at this
        rw [flat_rep hzel]
        unfold Builtin.zeroCells zav
        rw [hzc,hzs]
        simpa using this
       have honec:∀ v ∈ (Builtin.zeroCells z.cells len).toList,v.oneCell'=true:=by
        refine one_rep ?_ (by omega) _
        intro u hu
        rw [← hzc] at hu
        have hr:RL (fun _ _=>none) (Lf (fun _=>none) []) false (zcells P el) (zav P el):=consts_ok _
        exact all_one hr hone u hu
       have hle:(off+len) * tsize P el ≤ tot' * tsize P el:=Nat.mul_le_mul_right _ (by omega)
       rw [Nat.add_mul] at hle
       have hst:=run_storeCells_row P g' (off * tsize P el) tt (Builtin.zeroCells z.cells len).toList 0 cur w j4 (by rw [Nat.add_zero,Array.length_toList,size_zeroCells,hzs,j5]; exact hle) honec
       simp only [Nat.add_zero] at hst
       have hm:=splice_ok m hb' j3 j4 j5 j6 j7 j8 j9 j10 j11 hcells (fun x hx=>by rw [List.eq_of_mem_replicate hx,hzel,hz]) honec (k:=off) (by rw [List.length_replicate]; omega)
       refine ⟨.tuple #[],_,_,_,.inl ?_,hm.1,hm.2,.tup [] [] .nil⟩
       have hzv:(zeroValue el).run P w=.ok z w:=by simp [zeroValue,typeInfo,hi,hiz]
       obtain ⟨len',rfl⟩:∃ len',len=len'+1:=⟨len - 1,by omega⟩
       rw [hrun]
       simp only [Builtin.clear_,List.getElem?_toArray,List.getElem?_cons_zero,Sem.run_bind,run_underlying ht,Result.andThen_ok,hzv,hst,Sem.run_pure]
       rfl
    ·trivial
   ·trivial
  ·trivial
 ·trivial
theorem bin2_ok {wr:Bool} {op:BinOp} {t yt:TypeId} {x y:Operand} {o:Oper} (ho:o.op=.binOp op t x y yt) (m:Mine h ρ sto w) (he:EnvOk h ρ sto e a) :
  Res.Sound P h ρ sto w ((execOp a.eval o).run P w) (xbin2 wr sto (P.underlying t) op (ev e x) (ev e y)):=by
 have hx:=ev_ok he x
 have hy:=ev_ok he y
 have hrun:(execOp a.eval o).run P w=((do eqGuard op t x y (a.eval x) (a.eval y); Go.binOp op t (a.eval x) (a.eval y):Sem Value).run P w).andThen fun v w'=>.ok (.value v) w':=by
  simp [execOp,ho,andThen_assoc]
 unfold xbin2
 split
 ·rename_i el h1 h2
  rw [h1] at hy
  have hv:=inv_raw hy
  have keyE:∀ ad l c,a.eval x=.slice ad l c→op=.eql→Okv h ρ sto w ((execOp a.eval o).run P w) (.bool ad.isNone) sto:=fun ad l c hh hop=>by
   subst hop
   refine okv_pure m ?_ (.bool _)
   have hg:(eqGuard .eql t x y (.slice ad l c) (.slice none 0 0)).run P w=.ok () w:=by unfold eqGuard; rfl
   rw [hrun,hh,hv,Sem.run_bind,hg]
   show ((do pure (Value.bool (← Op.equal t (.slice ad l c) (.slice none 0 0))):Sem Value).run P w).andThen _=_
   rw [Sem.run_bind,run_equal_slice_nil w t el ad l c h2]; rfl
  have keyN:∀ ad l c,a.eval x=.slice ad l c→op=.neq→Okv h ρ sto w ((execOp a.eval o).run P w) (.bool (!ad.isNone)) sto:=fun ad l c hh hop=>by
   subst hop
   refine okv_pure m ?_ (.bool _)
   have hg:(eqGuard .neq t x y (.slice ad l c) (.slice none 0 0)).run P w=.ok () w:=by unfold eqGuard; rfl
   rw [hrun,hh,hv,Sem.run_bind,hg]
   show ((do pure (Value.bool (!(← Op.equal t (.slice ad l c) (.slice none 0 0)))):Sem Value).run P w).andThen _=_
   simp only [Sem.run_bind,run_equal_slice_nil w t el ad l c h2]; rfl
  have key:∀ neg,((neg=false∧op=.eql)∨(neg=true∧op=.neq))→Res.Sound P h ρ sto w ((execOp a.eval o).run P w) (xnileq sto neg (ev e x)):=by
   intro neg hneg
   have k2:∀ ad l c,a.eval x=.slice ad l c→Okv h ρ sto w ((execOp a.eval o).run P w) (.bool (neg ^^ ad.isNone)) sto:=fun ad l c hh=>by
    rcases hneg with ⟨rfl,hop⟩ | ⟨rfl,hop⟩
    ·simpa using keyE ad l c hh hop
    ·simpa using keyN ad l c hh hop
   unfold xnileq
   split
   ·rename_i ee y' l hv'
    rw [hv'] at hx
    rcases inv_fz hx with ⟨hh,_⟩ | ⟨b,oo,c,vs,hh,_⟩
    ·simp at hh
    ·show Okv _ _ _ _ _ _ _
     simpa using k2 _ _ _ hh
   ·rename_i ee hv'
    rw [hv'] at hx
    intro _
    rcases inv_fz hx with ⟨_,hh⟩ | ⟨b,oo,c,vs,hh,_⟩
    ·exact ⟨_,k2 _ _ _ hh⟩
    ·exact ⟨_,k2 _ _ _ hh⟩
   ·rename_i id off len cap hv'
    rw [hv'] at hx
    have hlf:=(inv_sl hx).2
    split
    ·rename_i ee l hb
     intro hcap
     simp only [LfC,sto_get hb] at hlf
     rcases hlf.2 hcap with ⟨_,_,ad,hh⟩ | ⟨g,tot,_,hh,_⟩
     ·exact ⟨_,k2 _ _ _ hh⟩
     ·exact ⟨_,k2 _ _ _ hh⟩
    ·trivial
   ·rename_i hv'
    rw [hv'] at hx
    have:=k2 _ _ _ (inv_raw hx)
    show Okv _ _ _ _ _ _ _
    simpa using this
   ·trivial
  split
  ·exact key false (.inl ⟨rfl,rfl⟩)
  ·exact key true (.inr ⟨rfl,rfl⟩)
  ·trivial
 ·rename_i kt et h1 h2
  rw [h1] at hy
  have hv:=inv_raw hy
  have keyE:∀ g,a.eval x=.map g→op=.eql→Okv h ρ sto w ((execOp a.eval o).run P w) (.bool g.isNone) sto:=fun g hh hop=>by
   subst hop
   refine okv_pure m ?_ (.bool _)
   have hg:(eqGuard .eql t x y (.map g) (.map none)).run P w=.ok () w:=by unfold eqGuard; rfl
   rw [hrun,hh,hv,Sem.run_bind,hg]
   show ((do pure (Value.bool (← Op.equal t (.map g) (.map none))):Sem Value).run P w).andThen _=_
   rw [Sem.run_bind,run_equal_map_nil w t kt et g h2]; rfl
  have keyN:∀ g,a.eval x=.map g→op=.neq→Okv h ρ sto w ((execOp a.eval o).run P w) (.bool (!g.isNone)) sto:=fun g hh hop=>by
   subst hop
   refine okv_pure m ?_ (.bool _)
   have hg:(eqGuard .neq t x y (.map g) (.map none)).run P w=.ok () w:=by unfold eqGuard; rfl
   rw [hrun,hh,hv,Sem.run_bind,hg]
   show ((do pure (Value.bool (!(← Op.equal t (.map g) (.map none)))):Sem Value).run P w).andThen _=_
   simp only [Sem.run_bind,run_equal_map_nil w t kt et g h2]; rfl
  have key:∀ neg,((neg=false∧op=.eql)∨(neg=true∧op=.neq))→Res.Sound P h ρ sto w ((execOp a.eval o).run P w) (xmapnil sto neg (ev e x)):=by
   intro neg hneg
   have k2:∀ g,a.eval x=.map g→Okv h ρ sto w ((execOp a.eval o).run P w) (.bool (neg ^^ g.isNone)) sto:=fun g hh=>by
    rcases hneg with ⟨rfl,hop⟩ | ⟨rfl,hop⟩
    ·simpa using keyE g hh hop
    ·simpa using keyN g hh hop
   unfold xmapnil
   split
   ·rename_i id hv'
    rw [hv'] at hx
    have hlf:=(inv_mp hx).2
    split
    ·rename_i es hb
     simp only [LfC,sto_mp hb] at hlf
     obtain ⟨g,_,hh⟩:=hlf
     have:=k2 _ hh
     show Okv _ _ _ _ _ _ _
     simpa using this
    ·trivial
   ·rename_i hv'
    rw [hv'] at hx
    have:=k2 _ (inv_raw hx)
    show Okv _ _ _ _ _ _ _
    simpa using this
   ·trivial
  split
  ·exact key false (.inl ⟨rfl,rfl⟩)
  ·exact key true (.inr ⟨rfl,rfl⟩)
  ·trivial
 ·exact xbin_ok ho m he
theorem bin3_ok {wr:Bool} {op:BinOp} {t yt:TypeId} {x y:Operand} {o:Oper} (ho:o.op=.binOp op t x y yt) (m:Mine h ρ sto w) (he:EnvOk h ρ sto e a) :
  Res.Sound P h ρ sto w ((execOp a.eval o).run P w) (xbin3 P t wr sto op (ev e x) (ev e y)):=by
 have hx:=ev_ok he x
 have hy:=ev_ok he y
 have hrun:(execOp a.eval o).run P w=((do eqGuard op t x y (a.eval x) (a.eval y); Go.binOp op t (a.eval x) (a.eval y):Sem Value).run P w).andThen fun v w'=>.ok (.value v) w':=by
  simp [execOp,ho,andThen_assoc]
 unfold xbin3
 split
 ·rename_i xs hxs
  rw [hxs] at hx
  split
  ·rename_i ys hys
   rw [hys] at hy
   unfold xeqs
   split
   ·rename_i fs hfs
    obtain ⟨vs,hvs,r1⟩:=inv_agg hx
    obtain ⟨us,hus,r2⟩:=inv_agg hy
    have hfo:P.fieldsOf t=fs:=by simp [Program.fieldsOf,hfs]
    have fin:∀ b,P.eqGuardType P.depth t=false→(Op.equalIn 10000 t (.agg vs.toArray) (.agg us.toArray)).run P w=.ok b w→(op=.eql∨op=.neq)→(execOp a.eval o).run P w=.ok (.value (.bool (if op=.eql then b else !b))) w:=by
     intro b g1 heq hop
     rw [hrun,hvs,hus,Sem.run_bind,run_eqGuard_agg w op t x y _ _ g1]
     simp only [Result.andThen_ok]
     rcases hop with rfl | rfl
     ·rw [run_eql_struct,heq]; rfl
     ·rw [run_neq_struct,heq]; rfl
    cases hb:eqFs P fs.toList xs ys with
    | none =>
     cases hn:eqFN P xs ys fs.toList with
     | none=>unfold xeqop; trivial
     | some b =>
      have hrun2:eqPlainN P t=true→(op=.eql∨op=.neq)→(execOp a.eval o).run P w=.ok (.value (.bool (if op=.eql then b else !b))) w:=by
       intro hp hop
       unfold eqPlainN at hp
       rw [hfs] at hp
       simp only [Bool.and_eq_true,Bool.not_eq_true'] at hp
       obtain ⟨g1,g2,g3⟩:=hp
       refine fin b g1 ?_ hop
       rw [run_equalIn_struct w 9999 t _ _ (by rw [hfo]; exact hfs) g2,hfo]
       exact eqFN_ok (d:=9997) r1 r2 g3 hn
      simp only
      unfold xeqop
      cases op with
      | eql=>exact fun hp=>okv_pure m (hrun2 hp (.inl rfl)) (.bool _)
      | neq=>exact fun hp=>okv_pure m (hrun2 hp (.inr rfl)) (.bool _)
      | _=>trivial
    | some b =>
     have hrun2:eqPlain P t=true→(op=.eql∨op=.neq)→(execOp a.eval o).run P w=.ok (.value (.bool (if op=.eql then b else !b))) w:=by
      intro hp hop
      unfold eqPlain at hp
      rw [hfs] at hp
      simp only [Bool.and_eq_true,Bool.not_eq_true'] at hp
      obtain ⟨g1,g2,g3⟩:=hp
      refine fin b g1 ?_ hop
      rw [run_equalIn_struct w 9999 t _ _ (by rw [hfo]; exact hfs) g2,hfo]
      exact eqFields_ok (d:=9998) g3 (by simpa using r1) (by simpa using r2) hb
     simp only
     unfold xeqop
     cases op with
     | eql=>exact fun hp=>okv_pure m (hrun2 hp (.inl rfl)) (.bool _)
     | neq=>exact fun hp=>okv_pure m (hrun2 hp (.inr rfl)) (.bool _)
     | _=>trivial
   ·trivial
  ·trivial
 ·exact bin2_ok ho m he
theorem xop_sound {wr frz:Bool} {o:Oper} {e:Env} {a:Act} (m:Mine h ρ sto w) (he:EnvOk h ρ sto e a) :
  Res.Sound P h ρ sto w ((execOp a.eval o).run P w) (xop wr frz P e sto o.op):=by
 cases ho:o.op with
 | move x=>exact okv_pure m (by simp [execOp,ho]) (ev_ok he x)
 | assign x=>exact okv_pure m (by simp [execOp,ho]) (ev_ok he x)
 | pick c x y=>exact pick_ok ho m he
 | binOp op t x y yt=>exact bin3_ok ho m he
 | unOp op t x =>
  cases op with
  | not=>exact not_ok ho m he
  | neg=>exact neg_ok ho m he
  | _=>trivial
 | extract x i=>exact extract_ok ho m he
 | index t x i=>exact index_ok ho m he
 | field t x f=>exact field_ok ho m he
 | box t x=>exact box2_ok ho m he
 | alloc t=>exact alloc_ok ho m
 | fieldAddr t x f=>exact fieldAddr_ok ho m he
 | indexAddr t x i=>exact indexAddr_ok ho m he
 | load t x=>exact load_ok ho m he
 | store t x v=>exact store_ok ho m he
 | convert a b x=>exact convert_ok ho m he
 | build t parts=>exact build_ok ho m he
 | buildSlice t len parts=>exact buildSlice_ok ho m he
 | makeFunc f first cap=>exact makeFunc_ok ho m he
 | slice t x lo hi mx=>exact cut_ok ho m he
 | makeSlice t n c=>exact make_ok ho m he
 | nilCheck x=>exact nil_ok ho m he
 | makeMap t r =>
  cases r with
  | none=>exact makeMap_ok ho m
  | some x=>trivial
 | mapUpdate t m' k v=>exact mapUpdate_ok ho m he
 | lookup t m' k c=>exact lookup_ok ho m he
 | mapEntry t m' k=>exact mapEntry_ok ho m he
 | entryStore t m' n v=>exact entryStore_ok ho m he
 | range t x=>exact range_ok ho m he
 | entry x=>exact entry_ok ho m he
 | call c =>
  simp only [xop]
  split
  ·rename_i hc; exact len_ok hc ho m he
  ·rename_i hc; exact cap_ok hc ho m he
  ·rename_i hc; exact append_ok hc ho m he
  ·rename_i hc; exact copy_ok hc ho m he
  ·rename_i hc; exact clear_ok hc ho m he
  ·rename_i hc; exact delete_ok hc ho m he
  ·rename_i hc; exact max_ok (big:=true) hc ho m he
  ·rename_i hc; exact max_ok (big:=false) hc ho m he
  ·rename_i f hc; exact call_ok hc ho m he
  ·trivial
 | _=>trivial
end
end Go.Av
