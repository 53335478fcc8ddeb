/- Writes in place: append over a block's places, copy. Own work of this seat. -/
import Derived.Test.YtnfkjpihaficbaaGreatDoorH6
set_option linter.unusedSimpArgs false
set_option linter.unusedVariables false
set_option linter.unusedSectionVars false
namespace Go.Av
open Go Go.RowKit
variable [Tr]
section
variable {h:Mem} {ρ:Own} {sto:List Blk} {w:World} {P:Program}
theorem flat_splice' {e:Nat} {l L:List AV} (hl:∀ x ∈ l,(cellsOf x).length=e) (hL:∀ x ∈ L,(cellsOf x).length=e) (k:Nat):flat (splice' l k L)=splice (flat l) (k * e) (flat L):=by
 unfold splice' splice
 rw [flat_append,flat_append,flat_take hl,flat_length hL,← Nat.add_mul,flat_drop hl]
theorem splice'_length {l L:List AV} {k:Nat} (hk:k+L.length ≤ l.length):(splice' l k L).length=l.length:=splice_length hk
theorem splice_ok (m:Mine h ρ sto w) {id e:Nat} {l L:List AV} (hb:sto[id]? = some (.arr e l)) {g tot:Nat} {cur:Array Value} {tt:TypeId} (h3:ρ id=some (g,tot)) (h4:HRow w g cur tt)
  (h5:cur.size=tot * e) (h6:l.length ≤ tot) (h7:tot ≤ maxLen) (h8:0 < e) (h9:∀ x ∈ l,(cellsOf x).length=e) (h10:∀ v ∈ cur.toList,v.oneCell'=true) (h11:RL h (Lf ρ sto) false (cur.toList.take (l.length * e)) (flat l))
  {cells:List Value} (hrl:RL h (Lf ρ sto) false cells (flat L)) (hsz:∀ x ∈ L,(cellsOf x).length=e) (hone:∀ v ∈ cells,v.oneCell'=true) {k:Nat} (hk:k+L.length ≤ l.length) :
  Mine h ρ (sto.set id (.arr e (splice' l k L))) (w.setRow g (splice cur.toList (k * e) cells).toArray)∧Later h ρ sto w h ρ (sto.set id (.arr e (splice' l k L))) (w.setRow g (splice cur.toList (k * e) cells).toArray):=by
 have hcl:cells.length=L.length * e:=by rw [hrl.length,flat_length hsz]
 have hlen:=splice'_length hk
 have hcurl:cur.toList.length=tot * e:=by simp [h5]
 have hle:l.length * e ≤ tot * e:=Nat.mul_le_mul_right _ h6
 have hke:(k+L.length) * e ≤ l.length * e:=Nat.mul_le_mul_right _ hk
 rw [Nat.add_mul] at hke
 have hspl:(splice cur.toList (k * e) cells).length=cur.size:=by
  rw [splice_length (by rw [hcl,hcurl]; omega)]; simp
 have hw:=h4.set (cs:=(splice cur.toList (k * e) cells).toArray) (by simp [hspl])
 refine m.write (w':=w.setRow g (splice cur.toList (k * e) cells).toArray) hb h3 (b':=.arr e (splice' l k L)) (.inl ⟨rfl,hlen⟩) rfl rfl ⟨rfl,Tr.same rfl⟩ (by simp) (fun k' hk'=>setRow_other w g k' _ hk') ?_
 refine .inr ⟨g,tot,_,tt,h3,hw,by simp [hspl,h5],by rw [hlen]; exact h6,h7,h8,?_,?_,?_⟩
 ·intro y hy
  simp only [splice',List.mem_append] at hy
  rcases hy with (hy | hy) | hy
  ·exact h9 y (List.mem_of_mem_take hy)
  ·exact hsz y hy
  ·exact h9 y (List.mem_of_mem_drop hy)
 ·intro y hy
  simp only [List.toList_toArray,splice,List.mem_append] at hy
  rcases hy with (hy | hy) | hy
  ·exact h10 y (List.mem_of_mem_take hy)
  ·exact hone y hy
  ·exact h10 y (List.mem_of_mem_drop hy)
 ·rw [hlen,flat_splice' h9 hsz]
  have e1:(splice cur.toList (k * e) cells).take (l.length * e)=splice (cur.toList.take (l.length * e)) (k * e) cells:=by
   apply List.ext_getElem?
   intro i
   rw [List.getElem?_take,splice_get (by rw [hcl,hcurl]; omega),splice_get (by rw [List.length_take,hcurl,Nat.min_eq_left hle,hcl]; omega)]
   simp only [List.getElem?_take]
   by_cases hi:i < l.length * e
   ·simp [hi]
   ·have:¬ i < k * e:=by omega
    have h2':¬ i < k * e+cells.length:=by rw [hcl]; omega
    simp only [hi,this,h2',if_false]
  simp only [List.toList_toArray]
  rw [e1]
  exact (h11.splice hrl _).mono (fun _ _ _ x=>x) (fun v a lf=>⟨lf.1,LfC_set hb (fun _ _=>rfl) (Or.inl ⟨rfl,hlen,rfl⟩:(_∧_∧_)∨_) lf.2⟩)
section
variable {t tx ty el:TypeId} {src:Value} {cells:List Value} {L:List AV} {r:Result Next}
theorem appMid_ok (m:Mine h ρ sto w) (ht:P.underlying t=some (.slice el)) (hs:Src P (tsize P el) tx src L.length cells w) (hrl:RL h (Lf ρ sto) false cells (flat L)) (hsz:∀ x ∈ L,(cellsOf x).length=tsize P el)
  {dst:Value} {id off len cap:Nat} {l:List AV} (hb:sto[id]? = some (.arr (tsize P el) l)) (hd:LfC ρ sto dst (.sl id off len cap))
  (hr:r=((Builtin.append_ #[t,tx] ty #[dst,src]).run P w).andThen fun v w'=>.ok (.value v) w') (hp:0 < tsize P el) (hne:len ≠ cap) (hcap:off+cap=l.length) (hroom:len+L.length ≤ cap) :
  Okv h ρ sto w r (.sl id off (len+L.length) cap) (sto.set id (.arr (tsize P el) (splice' l (off+len) L))):=by
 have hid:=(List.getElem?_eq_some_iff.1 hb).1
 simp only [LfC,hb] at hd
 rcases hd.2 hcap with ⟨h5,h6,_⟩ | ⟨g,tot,h5,rfl,h7⟩
 ·omega
 ·rcases m.own id _ hb with ⟨_,hno⟩ | ⟨g',tot',cur,tt,h3,h4,h5',h6,h7',h8,h9,h10,h11⟩
  ·simp [hno] at h5
  ·rw [h3] at h5
   simp only [Option.some.injEq,Prod.mk.injEq] at h5
   obtain ⟨rfl,rfl⟩:=h5
   have hle:(off+(len+L.length)) * tsize P el ≤ tot' * tsize P el:=Nat.mul_le_mul_right _ (by omega)
   rw [Nat.add_mul] at hle
   rw [append_room (ty:=ty) ht hp h4 hs (by omega) (by rw [h5']; exact hle),← Nat.add_mul] at hr
   have hm:=splice_ok m hb h3 h4 h5' h6 h7' h8 h9 h10 h11 hrl hsz hs.one (k:=off+len) (by omega)
   refine ⟨_,_,_,_,.inl hr,hm.1,hm.2,.leaf ⟨rfl,?_⟩⟩
   have hlen:(splice' l (off+len) L).length=l.length:=splice'_length (by omega)
   simp only [LfC,List.getElem?_set_self hid,hlen]
   exact ⟨by omega,fun _=>.inr ⟨g',tot',h3,rfl,hroom⟩⟩
end
theorem appZ_run {t tx ty el:TypeId} {k:IntKind} (ht:P.underlying t=some (.slice el)) (hk:P.underlying tx=some (.int k)) (hp:0 < tsize P el) (hz:(zav P el).length=tsize P el) {n:Nat} (hn:0 < n)
  (hb:n * tbytes P el ≤ 140737488355328) (hm:n ≤ 9223372036854775807):∃ z:Value,P.info? el ≠ none∧zcells P el=z.cells.toList∧z.cells.size=tsize P el∧n ≤ grownCap w n 0 el∧grownCap w n 0 el ≤ maxLen ∧
  (Builtin.append_ #[t,tx] ty #[.slice none 0 0,.int .i64 n]).run P w=.ok (.slice (some ⟨w.heap.size,0,none⟩) n (grownCap w n 0 el)) (w.drew.alloc (.cells (Builtin.zeroCells z.cells n++Builtin.zeroCells z.cells (grownCap w n 0 el - n)) el)):=by
 obtain ⟨i,z,hi,his,hib,hiz,hzc,hzs⟩:=zero_info hp hz
 have hge:=grownCap_ge w n 0 el
 have hcm:grownCap w n 0 el ≤ maxLen:=grownCap_le_maxLen w n 0 el (by simpa [maxLen] using hm)
 refine ⟨z,by simp [hi],hzc,hzs,hge,hcm,?_⟩
 have hw:IntKind.i64.wrap (n:Int)=n:=wrap_inr (k:=.i64) ⟨by omega,by omega⟩
 have h0:¬ ((n:Int) < 0):=by omega
 have hb':¬ (281474976710656 < (n:Int) * (i.bytes:Int)):=by
  rw [hib]
  have:(n:Int) * (tbytes P el:Int)=((n * tbytes P el:Nat):Int):=by simp
  omega
 have hn0:n ≠ 0:=by omega
 have hsz:¬ (n * i.size=0):=by rw [his]; exact Nat.ne_of_gt (Nat.mul_pos hn hp)
 have h63:¬ (9223372036854775807 < (n:Int)):=by omega
 have hfit:=growslice_fits (need:=n) (old:=0) (bytes:=tbytes P el) (by omega) hb
 have h48:¬ (281474976710656 < Builtin.nextslicecap n 0 * i.bytes):=by rw [hib]; omega
 have hle:¬ (n ≤ 0):=by omega
 simp [Builtin.append_,run_underlying ht,run_underlying hk,sizeOf,typeInfo,zeroValue,hi,hiz,asInt,asIntOf,hw,h0,hb',hle,hn0,h63,h48,hsz,Question.forced,newRow,grownCap,Builtin.firstCells]
theorem zelem_cells {row:Bool} {z:List AV} {sz:Nat} (hz:z.length=sz) (hr:row=false→sz=1) (h1:z.all one=true):cellsOf (zelem row z)=z:=by
 cases row with
 | true=>rfl
 | false =>
  have:=hr rfl
  match z,(by omega:z.length=1) with
  | [y],_ =>
   simp at h1
   exact cellsOf_one h1
theorem flat_rep {x:AV} {z:List AV} (hx:cellsOf x=z):∀ n,flat (List.replicate n x)=rep z n
 | 0=>rfl
 | n+1=>by rw [List.replicate_succ]; simp only [flat,rep,hx,flat_rep hx n]
theorem rep_take {z:List AV} (n c:Nat) (hnc:n ≤ c):(rep z c).take (n * z.length)=rep z n:=by
 obtain ⟨d,rfl⟩:=Nat.exists_eq_add_of_le hnc
 induction n with
 | zero=>simp [rep]
 | succ n ih =>
  rw [show n+1+d=(n+d)+1 by omega]
  simp only [rep]
  rw [show (n+1) * z.length=z.length+n * z.length by rw [Nat.succ_mul]; omega,List.take_length_add_append,ih (by omega)]
theorem appZ_ok {t tx ty el:TypeId} {row:Bool} (m:Mine h ρ sto w) (ht:P.underlying t=some (.slice el)) (hk:isI (P.underlying tx)=true) {r:Result Next} {n:Int}
  (hr:r=((Builtin.append_ #[t,tx] ty #[.slice none 0 0,.int .i64 n]).run P w).andThen fun v w'=>.ok (.value v) w') (hp:0 < tsize P el) (hz:(zav P el).length=tsize P el) (hrow:row=false→tsize P el=1) (hone:(zav P el).all one=true)
  (h0:0 ≤ n) (hb:n * tbytes P el ≤ 140737488355328) (hm:n ≤ 9223372036854775807):Okv h ρ sto w r (.sl sto.length 0 n.toNat n.toNat) (sto++[.arr (tsize P el) (List.replicate n.toNat (zelem row (zav P el)))]):=by
 obtain ⟨k,hk⟩:∃ k,P.underlying tx=some (.int k):=by
  unfold isI at hk
  split at hk
  ·rename_i k hq; exact ⟨k,hq⟩
  ·cases hk
 obtain ⟨n,rfl⟩:=Int.eq_ofNat_of_zero_le h0
 simp only [Int.toNat_natCast]
 by_cases hn:n=0
 ·subst hn
  obtain ⟨i,z,hi,his,hib,hiz,hzc,hzs⟩:=zero_info hp hz
  have hrun:(Builtin.append_ #[t,tx] ty #[.slice none 0 0,.int .i64 0]).run P w=.ok (.slice none 0 0) w:=by
   have hw:IntKind.i64.wrap 0=0:=by decide
   simp [Builtin.append_,run_underlying ht,run_underlying hk,sizeOf,typeInfo,hi,asInt,asIntOf,hw]
  rw [show ((0:Nat):Int)=0 from rfl,hrun] at hr
  obtain ⟨m1,l1⟩:=m.pushNil (tsize P el)
  exact ⟨_,_,_,_,.inl hr,m1,l1,.leaf ⟨rfl,by simp only [LfC,List.replicate_zero,List.getElem?_concat_length]; exact ⟨by simp,fun _=>.inl ⟨trivial,trivial,none,rfl⟩⟩⟩⟩
 ·have hb':n * tbytes P el ≤ 140737488355328:=by
   have:(n:Int) * (tbytes P el:Int)=((n * tbytes P el:Nat):Int):=by simp
   omega
  obtain ⟨z,hi,hzc,hzs,hge,hcm,hrun⟩:=appZ_run (w:=w) (ty:=ty) ht hk hp hz (n:=n) (by omega) hb' (by omega)
  rw [hrun] at hr
  generalize grownCap w n 0 el=tot at *
  have hzl:z.cells.toList.length=tsize P el:=by simpa using hzs
  have hz0:∀ k,RL h (Lf ρ sto) false (Builtin.zeroCells z.cells k).toList (rep (zav P el) k):=by
   intro k
   have:=zeros_ok (h:=h) (ρ:=ρ) (sto:=sto) (z:=z.cells.toList) (fl:=false) k (by omega)
   rw [hzl] at this
   unfold Builtin.zeroCells zav
   rw [hzc,hzs]
   simpa using this
  have hone0:∀ k,∀ v ∈ (Builtin.zeroCells z.cells k).toList,v.oneCell'=true:=by
   intro k
   refine one_rep ?_ (by omega) k
   intro u hu
   rw [← hzc] at hu
   have hr:RL (fun _ _=>none) (Lf (fun _=>none) []) false (zcells P el) (zav P el):=consts_ok _
   exact all_one hr hone u hu
  have hzel:=zelem_cells (row:=row) hz hrow hone
  have hlen:∀ k,(Builtin.zeroCells z.cells k).toList.length=k * tsize P el:=by intro k; simp [Builtin.zeroCells,hzs]
  have m0:=m.same (Same.drew w)
  have hm':=m0.push (.cells (Builtin.zeroCells z.cells n++Builtin.zeroCells z.cells (tot - n)) el) (.arr (tsize P el) (List.replicate n (zelem row (zav P el)))) (some tot) (by
   refine .inr ⟨w.heap.size,tot,_,el,by simp [upd],.of (heap_alloc_new w.drew _),?_,by simpa using hge,hcm,hp,?_,?_,?_⟩
   ·have h1:=hlen n
    have h2:=hlen (tot - n)
    simp only [Array.length_toList] at h1 h2
    rw [Array.size_append,h1,h2,← Nat.add_mul]
    congr 1; omega
   ·intro x hx
    rw [List.eq_of_mem_replicate hx,hzel,hz]
   ·intro v hv
    rw [Array.toList_append,List.mem_append] at hv
    rcases hv with hv | hv
    ·exact hone0 _ v hv
    ·exact hone0 _ v hv
   ·rw [flat_rep hzel,List.length_replicate,Array.toList_append,← hlen n,List.take_left]
    exact (hz0 n).mono (fun _ _ _ x=>x) (fun _ _=>Lf_push))
  refine ⟨_,_,_,_,.inl hr,hm'.1,(Later.same (Same.drew w)).trans hm'.2,.leaf ⟨rfl,?_⟩⟩
  simp [LfC,upd]
theorem cap_ok {c:Call} (hf:c.callee=.builtin .cap) {o:Oper} {e:Env} {a:Act} (ho:o.op=.call c) (m:Mine h ρ sto w) (he:EnvOk h ρ sto e a) :
  Res.Sound P h ρ sto w ((execOp a.eval o).run P w) (xcap2 P e c.args.toList c.argTypes.toList):=by
 have hrun:(execOp a.eval o).run P w=((Builtin.cap_ c.argTypes o.type (c.args.map a.eval)).run P w).andThen fun v w'=>.ok (.value v) w':=by
  simp [execOp,ho,resolve,hf,invoke,builtin]
 rw [hrun]
 unfold xcap2
 split
 ·rename_i x xs t ts h1 h2
  have hx:=ev_ok he x
  have e1:(c.args.map a.eval)[0]? = some (a.eval x):=by
   rw [← Array.getElem?_toList,Array.toList_map,h1]; rfl
  have e2:c.argTypes[0]? = some t:=by rw [← Array.getElem?_toList,h2]; rfl
  generalize a.eval x=u at *
  unfold xcap
  split
  ·rename_i el hd hv
   rw [hv] at hx
   refine okv_pure m (u:=.int .i64 0) ?_ (.int _ _)
   simp [Builtin.cap_,e1,e2,run_underlying hd,inv_raw hx,goInt]
  ·trivial
 ·trivial
theorem append_ok {c:Call} (hf:c.callee=.builtin .append) {o:Oper} {e:Env} {a:Act} (ho:o.op=.call c) (m:Mine h ρ sto w) (he:EnvOk h ρ sto e a) :
  Res.Sound P h ρ sto w ((execOp a.eval o).run P w) (xapp2 P e sto c.args.toList c.argTypes.toList):=by
 have hrun:(execOp a.eval o).run P w=((Builtin.append_ c.argTypes o.type (c.args.map a.eval)).run P w).andThen fun v w'=>.ok (.value v) w':=by
  simp [execOp,ho,resolve,hf,invoke,builtin]
 unfold xapp2
 split
 ·rename_i x y t u h1 h2
  have hx:=ev_ok he x
  have hy:=ev_ok he y
  have e1:c.args.map a.eval=#[a.eval x,a.eval y]:=by
   apply Array.ext'; rw [Array.toList_map,h1]; rfl
  have e2:c.argTypes=#[t,u]:=by apply Array.ext'; rw [h2]
  rw [e1,e2] at hrun
  generalize a.eval x=vx at *
  generalize a.eval y=vy at *
  generalize hr:(execOp a.eval o).run P w=r at *
  unfold xapp
  split
  ·rename_i el ht
   cases hu:notInt (P.underlying u) with
   | false =>
    simp only [cond_false]
    cases hu2:isI (P.underlying u) with
    | false=>trivial
    | true =>
     simp only [cond_true]
     unfold xappZ
     split
     ·rename_i n hv1 hv2
      rw [hv1] at hx
      rw [hv2] at hy
      have e1:=inv_raw hx
      have e2:=inv_int hy
      subst e1 e2
      intro ⟨h0,h3,h4,h5,h6,h7,h8⟩
      exact appZ_ok m ht hu2 hrun h0 h3 h4 h5 h6 h7 h8
     ·trivial
   | true =>
    simp only [cond_true]
    unfold xappS
    split
    ·rename_i L p hs
     have key:p→∃ cells,Src P (tsize P el) u vy L.length cells w∧RL h (Lf ρ sto) false cells (flat L)∧(∀ x ∈ L,(cellsOf x).length=tsize P el):=fun hp=>by
      obtain ⟨cells,k1,k2,k3,_⟩:=(src_ok (P:=P) m hs hp hy).src hu
      exact ⟨cells,k1,k2,k3⟩
     unfold xappD
     split
     ·rename_i hv
      rw [hv] at hx
      have:=inv_raw hx
      subst this
      intro ⟨hp,h0,h3,h4,h5,h6⟩
      obtain ⟨cells,k1,k2,k3⟩:=key hp
      exact appNil_ok m ht k1 k2 k3 hrun h0 h3 h4 h5 h6
     ·rename_i id off len cap hv
      rw [hv] at hx
      have hl:=(inv_sl hx).2
      unfold xappB
      split
      ·rename_i ee l hb
       have hb':=sto_get hb
       cases hq:len == cap with
       | true =>
        simp only [cond_true]
        intro ⟨hp,h0,h3,h4,h5,h6,h7,h8,h9⟩
        have hlc:len=cap:=by simpa using hq
        subst hlc h5 h6
        obtain ⟨cells,k1,k2,k3⟩:=key hp
        exact appTop_ok m ht k1 k2 k3 hb' hl hrun h0 h3 h4 h7 h8 h9
       | false =>
        simp only [cond_false]
        intro ⟨hp,h0,h3,h4,h5⟩
        subst h3
        obtain ⟨cells,k1,k2,k3⟩:=key hp
        exact appMid_ok m ht k1 k2 k3 hb' hl hrun h0 (by simpa using hq) h4 h5
      ·trivial
     ·trivial
    ·trivial
  ·trivial
 ·trivial
theorem copy_ok {c:Call} (hf:c.callee=.builtin .copy) {o:Oper} {e:Env} {a:Act} (ho:o.op=.call c) (m:Mine h ρ sto w) (he:EnvOk h ρ sto e a) :
  Res.Sound P h ρ sto w ((execOp a.eval o).run P w) (xcopy2 P e sto c.args.toList c.argTypes.toList):=by
 have hrun:(execOp a.eval o).run P w=((Builtin.copy_ c.argTypes o.type (c.args.map a.eval)).run P w).andThen fun v w'=>.ok (.value v) w':=by
  simp [execOp,ho,resolve,hf,invoke,builtin]
 unfold xcopy2
 split
 ·rename_i x y t u h1 h2
  have hx:=ev_ok he x
  have hy:=ev_ok he y
  have e1:c.args.map a.eval=#[a.eval x,a.eval y]:=by
   apply Array.ext'; rw [Array.toList_map,h1]; rfl
  have e2:c.argTypes=#[t,u]:=by apply Array.ext'; rw [h2]
  rw [e1,e2] at hrun
  generalize a.eval x=vx at *
  generalize a.eval y=vy at *
  generalize hr:(execOp a.eval o).run P w=r at *
  split
  ·rename_i el ht
   unfold xcopyS
   split
   ·rename_i L p hs
    split
    ·rename_i id off len cap hv
     rw [hv] at hx
     have hl:=(inv_sl hx).2
     unfold xcopyB
     split
     ·rename_i ee l hb
      have hb':=sto_get hb
      intro ⟨hp,h0,h3,h4,h5⟩
      subst h3
      obtain ⟨cells,k1,k2,k3,k4,k5⟩:=src_ok (P:=P) m hs hp hy
      have hid:=(List.getElem?_eq_some_iff.1 hb').1
      simp only [LfC,hb'] at hl
      have hsize:(sizeOf el).run P w=.ok (tsize P el) w:=sizeOf_run' h0 w
      have hmin:Nat.min L.length len ≤ L.length:=Nat.min_le_left _ _
      have hcells:=k2 w rfl (Nat.min L.length len) hmin
      have hcl:cells.length=L.length * tsize P el:=by rw [k3.length,flat_length k4]
      rcases hl.2 h4 with ⟨h6,h5',ad,rfl⟩ | ⟨g,tot,h5',rfl,h7⟩
      ·subst h6
       have hst:splice' l off (L.take 0)=l:=by simp [splice']
       rw [hst,set_same hb']
       refine ⟨.int .i64 (min L.length 0:Nat),_,_,_,.inl ?_,m,.refl ..,.int _ _⟩
       simp at hcells
       generalize at0 ad=ad at hrun ⊢
       cases ad <;> simp [hrun,Builtin.copy_,run_underlying ht,k1,hsize,hcells,goInt,storeCells]
      ·rcases m.own id _ hb' with ⟨_,hno⟩ | ⟨g',tot',cur,tt,j3,j4,j5,j6,j7,j8,j9,j10,j11⟩
       ·simp [hno] at h5'
       ·rw [j3] at h5'
        simp only [Option.some.injEq,Prod.mk.injEq] at h5'
        obtain ⟨rfl,rfl⟩:=h5'
        have hL:(L.take len).length=min L.length len:=by simp [Nat.min_comm]
        have hrl2:RL h (Lf ρ sto) false (cells.take (Nat.min L.length len * tsize P el)) (flat (L.take len)):=by
         have:L.take len=L.take (Nat.min L.length len):=by
          rcases Nat.le_total L.length len with hh | hh
          ·rw [show Nat.min L.length len=L.length from Nat.min_eq_left hh,List.take_length,List.take_of_length_le hh]
          ·rw [show Nat.min L.length len=len from Nat.min_eq_right hh]
         rw [this,← flat_take k4]
         exact k3.take _
        have hcl2:(cells.take (Nat.min L.length len * tsize P el)).length=min L.length len * tsize P el:=by
         rw [hrl2.length,flat_length (fun x hx=>k4 x (List.mem_of_mem_take hx)),hL]
        have hle:(off+min L.length len) * tsize P el ≤ tot' * tsize P el:=Nat.mul_le_mul_right _ (by omega)
        rw [Nat.add_mul] at hle
        have hone:∀ v ∈ cells.take (Nat.min L.length len * tsize P el),v.oneCell'=true:=fun v hv=>k5 v (List.mem_of_mem_take hv)
        have hst:=run_storeCells_row P g' (off * tsize P el) tt (cells.take (Nat.min L.length len * tsize P el)) 0 cur w j4 (by rw [Nat.add_zero,hcl2,j5]; exact hle) hone
        simp only [Nat.add_zero] at hst
        have hm:=splice_ok m hb' j3 j4 j5 j6 j7 j8 j9 j10 j11 hrl2 (fun x hx=>k4 x (List.mem_of_mem_take hx)) hone (k:=off) (by rw [hL]; omega)
        refine ⟨.int .i64 (min L.length len:Nat),_,_,_,.inl ?_,hm.1,hm.2,.int _ _⟩
        rw [hrun]
        simp only [Builtin.copy_,List.getElem?_toArray,List.getElem?_cons_zero,List.getElem?_cons_succ,Sem.run_bind,run_underlying ht,Result.andThen_ok,k1,hsize,hcells,Sem.run_pure,goInt,hst,List.toList_toArray]
        rfl
     ·trivial
    ·trivial
   ·trivial
  ·trivial
 ·trivial
end
end Go.Av
namespace Go.Av
open Go Go.RowKit
variable [Tr]
section
variable {h:Mem} {ρ:Own} {sto:List Blk} {w:World} {P:Program} {e:Env} {a:Act}
theorem lo_val (he:EnvOk h ρ sto e a) {lo:Option Operand} {x:Int} (hlo:loOf (evo e lo)=some x):(lo.map a.eval=none∧x=0)∨∃ k,lo.map a.eval=some (.int k x):=by
 cases lo with
 | none=>simp [evo,loOf] at hlo; exact .inl ⟨rfl,hlo.symm⟩
 | some o =>
  have ho:=ev_ok he o
  simp only [evo] at hlo
  unfold loOf at hlo
  split at hlo
  ·rename_i hh; simp at hh
  ·rename_i k b hh
   simp only [Option.some.injEq] at hh hlo
   subst hlo
   rw [hh] at ho
   exact .inr ⟨k,by simp [inv_int ho]⟩
  ·simp at hlo
theorem hi_val (he:EnvOk h ρ sto e a) {hi:Option Operand} {n:Nat} {y:Int} (hhi:hiOf n (evo e hi)=some y):(hi.map a.eval=none∧y=n)∨∃ k,hi.map a.eval=some (.int k y):=by
 cases hi with
 | none=>simp [evo,hiOf] at hhi; exact .inl ⟨rfl,hhi.symm⟩
 | some o =>
  have ho:=ev_ok he o
  simp only [evo] at hhi
  unfold hiOf at hhi
  split at hhi
  ·rename_i hh; simp at hh
  ·rename_i k b hh
   simp only [Option.some.injEq] at hh hhi
   subst hhi
   rw [hh] at ho
   exact .inr ⟨k,by simp [inv_int ho]⟩
  ·simp at hhi
theorem bounds_ok (he:EnvOk h ρ sto e a) {lo hi:Option Operand} {x y:Int} {n c:Nat} (isS:Bool) (hlo:loOf (evo e lo)=some x) (hhi:hiOf n (evo e hi)=some y) (h0:0 ≤ x) (h1:x ≤ y) (h2:y ≤ c) :
  (Instr.sliceBounds isS n c (lo.map a.eval) (hi.map a.eval) none).run P w=.ok (x.toNat,y.toNat,c) w:=by
 have b1:∀ k code,(Instr.sliceBound (.int k y) c code).run P w=.ok y.toNat w:=fun k code=>run_sliceBound w k y c code (by omega) h2
 have b2:∀ k code,(Instr.sliceBound (.int k x) y.toNat code).run P w=.ok x.toNat w:=fun k code=>run_sliceBound w k x _ code h0 (by omega)
 rcases lo_val he hlo with ⟨e1,e2⟩ | ⟨k,e1⟩ <;> rcases hi_val he hhi with ⟨e3,e4⟩ | ⟨k',e3⟩ <;> rw [e1,e3]
 ·subst e2 e4; simp [Instr.sliceBounds]
 ·subst e2; simp [Instr.sliceBounds,b1]
 ·subst e4
  have b3:∀ k code,(Instr.sliceBound (.int k x) n code).run P w=.ok x.toNat w:=fun k code=>by have:=b2 k code; simpa using this
  simp [Instr.sliceBounds,b3]
 ·simp [Instr.sliceBounds,b1,b2]
theorem cutL_eq {α:Type} (l:List α) {lo hi:Option AV} {x y:Int} (hlo:loOf lo=some x) (hhi:hiOf l.length hi=some y):cutL l lo hi=(l.take y.toNat).drop x.toNat:=by
 unfold loOf at hlo
 unfold hiOf at hhi
 split at hlo <;> split at hhi <;> simp_all [cutL]
 all_goals subst_vars
 all_goals simp
theorem sliceAt_run {t el:TypeId} (ht:P.underlying t=some (.slice el)) (hp:0 < tsize P el) {ad:Option Addr} {n c x y m:Nat} {lo hi mx:Option Value} (hb:(Instr.sliceBounds true n c lo hi mx).run P w=.ok (x,y,m) w) :
  (Instr.sliceAt t (.slice ad n c) lo hi mx).run P w=.ok (.slice (if m=x then ad else ad.map (·.add (x * tsize P el))) (y - x) (m - x)) w:=by
 have hsize:(sizeOf el).run P w=.ok (tsize P el) w:=sizeOf_run' hp w
 simp [Instr.sliceAt,Instr.slice,run_underlying ht,hb,hsize]
theorem sliceAt_str {t:TypeId} (ht:P.underlying t=some .string) {s:ByteArray} {x y m:Nat} {lo hi:Option Value} (hb:(Instr.sliceBounds false s.size s.size lo hi none).run P w=.ok (x,y,m) w) :
  (Instr.sliceAt t (.string s) lo hi none).run P w=.ok (.string (s.extract x y)) w:=by
 simp [Instr.sliceAt,Instr.slice,run_underlying ht,hb]
theorem cut_ok {t:TypeId} {x:Operand} {lo hi mx:Option Operand} {o:Oper} (ho:o.op=.slice t x lo hi mx) (m:Mine h ρ sto w) (he:EnvOk h ρ sto e a) :
  Res.Sound P h ρ sto w ((execOp a.eval o).run P w) (xcut P sto (ev e x) (evo e lo) (evo e hi) (evo e mx) (P.underlying t)):=by
 have hrun:(execOp a.eval o).run P w=((Instr.sliceAt t (a.eval x) (lo.map a.eval) (hi.map a.eval) (mx.map a.eval)).run P w).andThen fun v w'=>.ok (.value v) w':=by
  simp [execOp,ho]
 have hx:=ev_ok he x
 generalize a.eval x=vx at *
 generalize hr:(execOp a.eval o).run P w=r at *
 unfold xcut
 split
 ·rename_i hm ht
  have hmx:mx=none:=by cases mx <;> simp [evo] at hm ⊢
  subst hmx
  split
  ·rename_i l hv
   rw [hv] at hx
   have:=inv_str hx
   subst this
   unfold xcutS
   split
   ·rename_i xx yy hl hh
    intro ⟨h0,h1,h2⟩
    have hsz:(ByteArray.mk l.toArray).size=l.length:=rfl
    have hb:=bounds_ok (P:=P) (w:=w) he false hl hh h0 h1 h2
    refine okv_pure m (u:=.string ⟨((l.take yy.toNat).drop xx.toNat).toArray⟩) ?_ (by rw [cutL_eq l hl hh]; exact .str _)
    rw [hrun,Option.map_none,sliceAt_str ht (by rw [hsz]; exact hb)]
    simp only [Result.andThen_ok]
    congr 3
    apply ByteArray.ext
    simp [ByteArray.data_extract,List.extract,List.drop_take]
   ·trivial
  ·trivial
 ·rename_i el hm ht
  have hmx:mx=none:=by cases mx <;> simp [evo] at hm ⊢
  subst hmx
  split
  ·rename_i ee l hv
   rw [hv] at hx
   unfold xcutF
   split
   ·rename_i xx yy hl hh
    intro ⟨hp,h3,h0,h1,h2⟩
    subst h3
    rw [cutL_eq l hl hh]
    rcases inv_fz hx with ⟨rfl,rfl⟩ | ⟨b,oo,c,vs,rfl,k1,k2,k3,k4⟩
    ·have hb:=bounds_ok (P:=P) (w:=w) (n:=0) (c:=0) he true hl hh h0 h1 h2
     have hx0:xx.toNat=0:=by simp at h2; omega
     refine okv_pure m (u:=.slice none 0 0) ?_ (by simp; exact .fznil _)
     rw [hrun,Option.map_none,sliceAt_run ht hp hb]
     have:yy.toNat=0:=by simp at h2; omega
     simp [hx0,this]
    ·have hb:=bounds_ok (P:=P) (w:=w) (c:=c) he true hl hh h0 h1 (by omega)
     have hlen:((l.take yy.toNat).drop xx.toNat).length=yy.toNat - xx.toNat:=by simp; omega
     have hrl:RL h (Lf ρ sto) true ((vs.take (yy.toNat * tsize P el)).drop (xx.toNat * tsize P el)) (flat ((l.take yy.toNat).drop xx.toNat)):=by
      rw [← flat_drop (fun x hx=>k2 x (List.mem_of_mem_take hx)),← flat_take k2]
      exact (k1.take _).drop _
     have hvl:vs.length=l.length * tsize P el:=by rw [k1.length,flat_length k2]
     by_cases hc:c=xx.toNat
     ·have hnil:(l.take yy.toNat).drop xx.toNat=[]:=List.eq_nil_of_length_eq_zero (by rw [hlen]; omega)
      rw [hnil]
      refine okv_pure m (u:=.slice (some ⟨b,oo,none⟩) 0 0) ?_ (.fz b oo 0 _ [] [] .nil (by simp) (by simp) (Nat.le_refl _))
      rw [hrun,Option.map_none,sliceAt_run ht hp hb]
      have hyx:yy.toNat - xx.toNat=0:=by omega
      simp [hc,hyx]
     ·refine okv_pure m (u:=.slice (some ⟨b,oo+xx.toNat * tsize P el,none⟩) ((l.take yy.toNat).drop xx.toNat).length (c - xx.toNat)) ?_ (.fz b _ _ _ _ _ hrl (fun x hx=>k2 x (List.mem_of_mem_take (List.mem_of_mem_drop hx))) (fun k v hk=>?_) (by rw [hlen]; omega))
      ·rw [hrun,Option.map_none,sliceAt_run ht hp hb,hlen]
       simp [hc,Addr.add_mid]
      ·rw [List.getElem?_drop,List.getElem?_take] at hk
       split at hk
       ·have:=k3 _ v hk
        rwa [← Nat.add_assoc] at this
       ·simp at hk
   ·trivial
  ·rename_i id off len cap hv
   rw [hv] at hx
   have hlf:=(inv_sl hx).2
   unfold xcutB
   split
   ·rename_i ee l xx yy hbk hl hh
    have hso:=sto_get hbk
    intro ⟨hp,h3,h4,h5,h0,h1,h2⟩
    subst h3
    simp only [LfC,hso] at hlf
    rcases hlf.2 h4 with ⟨rfl,rfl,ad,rfl⟩ | ⟨g,tot,j1,rfl,j2⟩
    ·have hb:=bounds_ok (P:=P) (w:=w) (c:=0) he true hl hh h0 h1 (by simpa using h2)
     have hx0:xx=0:=by simp at h2; omega
     have hy0:yy=0:=by simp at h2; omega
     subst hx0 hy0
     refine okv_pure m (u:=.slice (at0 ad) 0 0) ?_ (.leaf ⟨rfl,?_⟩)
     ·rw [hrun,Option.map_none,sliceAt_run ht hp hb]; simp
     ·simp only [LfC,hso]
      exact ⟨by simp at h4 ⊢; omega,fun _=>.inl ⟨rfl,rfl,ad,rfl⟩⟩
    ·have hown:=m.own id _ hso
     rcases hown with ⟨_,hno⟩ | ⟨g',tot',cur,tt,i3,i4,i5,i6,i7,i8,i9,i10,i11⟩
     ·simp [hno] at j1
     ·rw [i3] at j1
      simp only [Option.some.injEq,Prod.mk.injEq] at j1
      obtain ⟨rfl,rfl⟩:=j1
      have hb:=bounds_ok (P:=P) (w:=w) (c:=tot' - off) he true hl hh h0 h1 (by omega)
      by_cases hc:tot' - off=xx.toNat
      ·have hyx:yy.toNat - xx.toNat=0:=by omega
       refine okv_pure m (u:=.slice (some ⟨g',off * tsize P el,none⟩) 0 0) ?_ (.leaf ⟨rfl,?_⟩)
       ·rw [hrun,Option.map_none,sliceAt_run ht hp hb]
        simp [hc,hyx]
       ·simp only [LfC,hso]
        exact ⟨by omega,fun _=>.inl ⟨by omega,by omega,some (g',off * tsize P el),rfl⟩⟩
      ·refine okv_pure m (u:=.slice (some ⟨g',(off+xx.toNat) * tsize P el,none⟩) (yy - xx).toNat (tot' - (off+xx.toNat))) ?_ (.leaf ⟨rfl,?_⟩)
       ·rw [hrun,Option.map_none,sliceAt_run ht hp hb]
        have:(yy - xx).toNat=yy.toNat - xx.toNat:=by omega
        simp [hc,Addr.add_mid,Nat.add_mul,this,Nat.sub_add_eq]
       ·simp only [LfC,hso]
        exact ⟨by omega,fun _=>.inr ⟨g',tot',i3,rfl,by omega⟩⟩
   ·trivial
  ·rename_i hv
   rw [hv] at hx
   have:=inv_raw hx
   subst this
   unfold xcutN
   split
   ·rename_i xx yy hl hh
    intro ⟨hp,h0,h1⟩
    subst h0 h1
    have hb:=bounds_ok (P:=P) (w:=w) (n:=0) (c:=0) he true hl hh (by omega) (by omega) (by omega)
    refine okv_pure m (u:=.slice none 0 0) ?_ (.raw _)
    rw [hrun,Option.map_none,sliceAt_run ht hp hb]; rfl
   ·trivial
  ·trivial
 ·rename_i mm el hm ht
  obtain ⟨mo,rfl⟩:∃ mo,mx=some mo:=by cases mx <;> simp [evo] at hm ⊢
  simp only [evo,Option.some.injEq] at hm
  subst hm
  have hmo:=ev_ok he mo
  split
  ·rename_i hlo
   have hlo':lo=none:=by cases lo <;> simp [evo] at hlo ⊢
   subst hlo'
   unfold xcut0
   split
   ·rename_i k1 k2 e1 e2
    obtain ⟨ho',rfl⟩:∃ ho',hi=some ho':=by cases hi <;> simp [evo] at e1 ⊢
    simp only [evo,Option.some.injEq] at e1 e2
    have hho:=ev_ok he ho'
    rw [e1] at hho
    rw [e2] at hmo
    have v1:=inv_int hho
    have v2:=inv_int hmo
    have hb:∀ n c,(Instr.sliceBounds true n c none (some (.int k1 0)) (some (.int k2 0))).run P w=.ok (0,0,0) w:=by
     intro n c
     have b1:=run_sliceBound (P:=P) w k2 0 c .slice3Acap (by omega) (by omega)
     have b2:=run_sliceBound (P:=P) w k1 0 0 .slice3B (by omega) (by omega)
     simp [Instr.sliceBounds,b1,b2]
    have hsl:0 < tsize P el→∀ ad n c,(Instr.sliceAt t (.slice ad n c) none (some (.int k1 0)) (some (.int k2 0))).run P w=.ok (.slice ad 0 0) w:=by
     intro hp ad n c
     rw [sliceAt_run ht hp (hb n c)]; simp
    simp only [Option.map_some,Option.map_none,v1,v2] at hrun
    have new:∀ (ad:Option (Nat × Nat)),r=.ok (.value (.slice (at0 ad) 0 0)) w→Okv h ρ sto w r (.sl sto.length 0 0 0) (sto++[.arr 0 []]):=fun ad hh=>by
     obtain ⟨m1,l1⟩:=m.pushNil 0
     exact ⟨_,_,_,_,.inl hh,m1,l1,.leaf ⟨rfl,by simp only [LfC,List.getElem?_concat_length]; exact ⟨by simp,fun _=>.inl ⟨trivial,trivial,ad,rfl⟩⟩⟩⟩
    split
    ·rename_i ee l hv
     rw [hv] at hx
     intro hp
     rcases inv_fz hx with ⟨_,rfl⟩ | ⟨b,oo,c,vs,rfl,_⟩
     ·exact new none (by rw [hrun,hsl hp]; rfl)
     ·exact new (some (b,oo)) (by rw [hrun,hsl hp]; rfl)
    ·rename_i id off len cap hv
     rw [hv] at hx
     have hlf:=(inv_sl hx).2
     split
     ·rename_i ee l hbk
      intro ⟨hp,hcap⟩
      simp only [LfC,sto_get hbk] at hlf
      rcases hlf.2 hcap with ⟨_,_,ad,rfl⟩ | ⟨g,tot,_,rfl,_⟩
      ·exact new ad (by rw [hrun,hsl hp]; rfl)
      ·exact new (some (g,off * ee)) (by rw [hrun,hsl hp]; rfl)
     ·trivial
    ·rename_i hv
     rw [hv] at hx
     have:=inv_raw hx
     subst this
     intro hp
     exact okv_pure m (u:=.slice none 0 0) (by rw [hrun,hsl hp]; rfl) (.raw _)
    ·trivial
   ·trivial
  ·rename_i lo' hlo
   obtain ⟨lo2,rfl⟩:∃ lo2,lo=some lo2:=by cases lo <;> simp [evo] at hlo ⊢
   simp only [evo,Option.some.injEq] at hlo
   subst hlo
   unfold xcut3
   split
   ·rename_i xx yy mm e1 e2 e3
    obtain ⟨hi2,rfl⟩:∃ hi2,hi=some hi2:=by cases hi <;> simp [evo,ixOf] at e2 ⊢
    have val:∀ {y:Operand} {n:Int},ixOf (some (ev e y))=some n→∃ k,a.eval y=.int k n:=fun {y n} hy=>by
     have hh:=ev_ok he y
     unfold ixOf at hy
     split at hy
     ·rename_i k b hq
      simp only [Option.some.injEq] at hq hy
      rw [hq] at hh
      exact ⟨k,by rw [inv_int hh,hy]⟩
     ·simp at hy
    obtain ⟨k1,v1⟩:=val e1
    obtain ⟨k2,v2⟩:=val e2
    obtain ⟨k3,v3⟩:=val e3
    simp only [Option.map_some,v1,v2,v3] at hrun
    have hb:0 ≤ xx→xx ≤ yy→yy ≤ mm→∀ n c:Nat,mm ≤ c→(Instr.sliceBounds true n c (some (.int k1 xx)) (some (.int k2 yy)) (some (.int k3 mm))).run P w=.ok (xx.toNat,yy.toNat,mm.toNat) w:=by
     intro h0 h1 h2 n c h3
     have b1:=run_sliceBound (P:=P) w k3 mm c .slice3Acap (by omega) h3
     have b2:=run_sliceBound (P:=P) w k2 yy mm.toNat .slice3B (by omega) (by omega)
     have b3:=run_sliceBound (P:=P) w k1 xx yy.toNat .slice3C (by omega) (by omega)
     simp [Instr.sliceBounds,b1,b2,b3]
    split
    ·rename_i ee l hv
     rw [hv] at hx
     intro ⟨hp,h0,h1,h2,h3⟩
     rcases inv_fz hx with ⟨rfl,rfl⟩ | ⟨b,oo,c,vs,rfl,_,_,_,h4⟩
     ·rw [sliceAt_run ht hp (hb h0 h1 h2 0 0 (by simpa using h3))] at hrun
      exact okv_pure m hrun (.any _)
     ·rw [sliceAt_run ht hp (hb h0 h1 h2 _ c (by omega))] at hrun
      exact okv_pure m hrun (.any _)
    ·rename_i id off len cap hv
     rw [hv] at hx
     have hlf:=(inv_sl hx).2
     split
     ·rename_i ee l hbk
      intro ⟨hp,hcap,hlc,h0,h1,h2,h3⟩
      have hso:=sto_get hbk
      simp only [LfC,hso] at hlf
      rcases hlf.2 hcap with ⟨_,rfl,ad,rfl⟩ | ⟨g,tot,j1,rfl,_⟩
      ·rw [sliceAt_run ht hp (hb h0 h1 h2 0 0 (by simpa using h3))] at hrun
       exact okv_pure m hrun (.any _)
      ·rcases m.own id _ hso with ⟨_,hno⟩ | ⟨g',tot',cur,tt,i3,i4,i5,i6,_⟩
       ·simp [hno] at j1
       ·rw [i3] at j1
        simp only [Option.some.injEq,Prod.mk.injEq] at j1
        obtain ⟨rfl,rfl⟩:=j1
        rw [sliceAt_run ht hp (hb h0 h1 h2 _ (tot' - off) (by omega))] at hrun
        exact okv_pure m hrun (.any _)
     ·trivial
    ·trivial
   ·trivial
 ·rename_i n el hm ht
  have hmx:mx=none:=by cases mx <;> simp [evo] at hm ⊢
  subst hmx
  unfold xcutA
  split
  ·rename_i hlo hhi
   have hlo':lo=none:=by cases lo <;> simp [evo] at hlo ⊢
   have hhi':hi=none:=by cases hi <;> simp [evo] at hhi ⊢
   subst hlo' hhi'
   split
   ·rename_i ee aa hv
    rw [hv] at hx
    intro ⟨hs1,hn,hlen,hone⟩
    obtain ⟨b,oo,vs,rfl,k1,k2,k3,_⟩:=inv_pin hx
    have hfl:flat (cellsOf aa)=cellsOf aa:=by
     have:∀ l:List AV,l.all one=true→flat l=l:=by
      intro l
      induction l with
      | nil=>intro _; rfl
      | cons y l ih =>
       intro hl
       simp only [List.all_cons,Bool.and_eq_true] at hl
       rw [flat,ih hl.2,cellsOf_one hl.1]
       rfl
     exact this _ hone
    have h1c:∀ x ∈ cellsOf aa,(cellsOf x).length=1:=fun x hx=>by rw [cellsOf_one (List.all_eq_true.1 hone x hx)]; rfl
    have hfa:flat [aa]=cellsOf aa:=by simp [flat]
    rw [hfa] at k1
    refine okv_pure m (u:=.slice (some ⟨b,oo,none⟩) (cellsOf aa).length n) ?_ (.fz b oo n 1 (cellsOf aa) vs (by rw [hfl]; exact k1) h1c k3 (by omega))
    rw [hrun]
    have hsize:(sizeOf el).run P w=.ok (tsize P el) w:=sizeOf_run' (by omega) w
    have hne:n ≠ 0:=by omega
    simp [Instr.sliceAt,run_underlying ht,Instr.sureAddr,Instr.sliceBounds,hsize,hlen,hne,Addr.add]
   ·trivial
  ·trivial
 ·trivial
end
end Go.Av
