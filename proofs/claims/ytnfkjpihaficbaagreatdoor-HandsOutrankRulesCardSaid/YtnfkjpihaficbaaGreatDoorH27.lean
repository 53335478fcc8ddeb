/- A call that makes new blocks, over every table; a call that only reads, at memory of one's own. Own work of this seat. -/
import Derived.Test.YtnfkjpihaficbaaGreatDoorH26
set_option linter.unusedSimpArgs false
set_option linter.unusedVariables false
set_option linter.unusedSectionVars false
namespace Go.Av
open Go Go.RowKit
variable [Tr]
def sh1 (n:Nat):AV→AV
 | .sl id o l c=>.sl (id+n) o l c
 | .ptr id m i o=>.ptr (id+n) m i o
 | .mp id=>.mp (id+n)
 | .agg _=>.any
 | .tup _=>.any
 | .fn _ _=>.any
 | a=>a
def shC (n:Nat):AV→AV
 | .agg r=>.agg (r.map (sh1 n))
 | a=>sh1 n a
def shV (n:Nat):AV→AV
 | .tup r=>.tup (r.map (shC n))
 | .agg r=>.agg (r.map (sh1 n))
 | a=>sh1 n a
def shB (n:Nat):Blk→Blk
 | .arr e l=>.arr e (l.map (shC n))
 | .mp es=>.mp (es.map fun x=>(x.1,shC n x.2))
 | b=>b
section
variable {h:Mem} {ρ1 ρ2:Own} {s1 s2:List Blk} {n:Nat}
theorem sh_leaf (hs:∀ id,s2[id+n]? = (s1[id]?).map (shB n)) (hr:∀ id,ρ2 (id+n)=ρ1 id) {v:Value} {a:AV} (l:Lf ρ1 s1 v a):Lf ρ2 s2 v (sh1 n a):=by
 refine ⟨l.1,?_⟩
 have l:=l.2
 cases a with
 | sl id a b c =>
  simp only [sh1,LfC,hs,hr] at l ⊢
  cases hq:s1[id]? with
  | none=>rw [hq] at l; exact l.elim
  | some b=>rw [hq] at l; cases b <;> simp only [Option.map_some,shB,List.length_map] at l ⊢ <;> exact l
 | ptr id a b c =>
  simp only [sh1,LfC,hs,hr] at l ⊢
  cases hq:s1[id]? with
  | none=>rw [hq] at l; exact l.elim
  | some b=>rw [hq] at l; cases b <;> simp only [Option.map_some,shB,List.length_map] at l ⊢ <;> exact l
 | mp id =>
  simp only [sh1,LfC,hs,hr] at l ⊢
  cases hq:s1[id]? with
  | none=>rw [hq] at l; exact l.elim
  | some b=>rw [hq] at l; cases b <;> simp only [Option.map_some,shB] at l ⊢ <;> exact l
 | _=>exact l.elim
theorem sh_one (hs:∀ id,s2[id+n]? = (s1[id]?).map (shB n)) (hr:∀ id,ρ2 (id+n)=ρ1 id) {v:Value} {a:AV} (r:RV h (Lf ρ1 s1) false v a):RV h (Lf ρ2 s2) false v (sh1 n a):=by
 have frz:frozen a=true→RV h (Lf ρ2 s2) false v a:=fun hf=>(frz_one r hf).thaw (fun _ _ _ x=>x)
 cases a with
 | sl id o l c=>exact .leaf (sh_leaf hs hr (inv_sl r))
 | ptr id n i o=>exact .leaf (sh_leaf hs hr (inv_ptr r))
 | mp id=>exact .leaf (sh_leaf hs hr (inv_mp r))
 | agg r=>exact .any _
 | tup r=>exact .any _
 | fn f r=>exact .any _
 | _=>exact frz rfl
theorem sh_list (hs:∀ id,s2[id+n]? = (s1[id]?).map (shB n)) (hr:∀ id,ρ2 (id+n)=ρ1 id):∀ {l:List AV} {vs:List Value},RL h (Lf ρ1 s1) false vs l→RL h (Lf ρ2 s2) false vs (l.map (sh1 n))
 | [],_,r=>by cases r; exact .nil
 | a :: l,_,r=>by cases r with | cons r1 r2=>exact .cons (sh_one hs hr r1) (sh_list hs hr r2)
theorem sh_cell (hs:∀ id,s2[id+n]? = (s1[id]?).map (shB n)) (hr:∀ id,ρ2 (id+n)=ρ1 id) {v:Value} {a:AV} (r:RV h (Lf ρ1 s1) false v a):RV h (Lf ρ2 s2) false v (shC n a):=by
 cases a with
 | agg l =>
  obtain ⟨vs,rfl,rl⟩:=inv_agg r
  exact .agg vs _ (sh_list hs hr rl)
 | _=>exact sh_one hs hr r
theorem sh_cells (hs:∀ id,s2[id+n]? = (s1[id]?).map (shB n)) (hr:∀ id,ρ2 (id+n)=ρ1 id):∀ {l:List AV} {vs:List Value},RL h (Lf ρ1 s1) false vs l→RL h (Lf ρ2 s2) false vs (l.map (shC n))
 | [],_,r=>by cases r; exact .nil
 | a :: l,_,r=>by cases r with | cons r1 r2=>exact .cons (sh_cell hs hr r1) (sh_cells hs hr r2)
theorem sh_val (hs:∀ id,s2[id+n]? = (s1[id]?).map (shB n)) (hr:∀ id,ρ2 (id+n)=ρ1 id) {v:Value} {a:AV} (r:RV h (Lf ρ1 s1) false v a):RV h (Lf ρ2 s2) false v (shV n a):=by
 cases a with
 | tup l =>
  obtain ⟨vs,rfl,rl⟩:=inv_tup r
  exact .tup vs _ (sh_cells hs hr rl)
 | agg l =>
  obtain ⟨vs,rfl,rl⟩:=inv_agg r
  exact .agg vs _ (sh_list hs hr rl)
 | _=>exact sh_one hs hr r
theorem shC_cells (n:Nat) (x:AV):cellsOf (shC n x)=(cellsOf x).map (sh1 n):=by cases x <;> rfl
theorem shC_flat (n:Nat):∀ l,flat (l.map (shC n))=(flat l).map (sh1 n)
 | []=>rfl
 | x :: r=>by simp only [List.map_cons,flat,shC_cells,shC_flat n r,List.map_append]
theorem Lf_app {ρ ρ2:Own} {s t:List Blk} (hr:∀ i,i < s.length→ρ2 i=ρ i) {v:Value} {a:AV} (l:Lf ρ s v a):Lf ρ2 (s++t) v a:=by
 refine ⟨l.1,?_⟩
 have l:=l.2
 have key:∀ id b,s[id]? = some b→(s++t)[id]? = some b∧ρ2 id=ρ id:=fun id b hb=>by
  have hi:=(List.getElem?_eq_some_iff.1 hb).1
  exact ⟨by rw [List.getElem?_append_left hi,hb],hr id hi⟩
 cases a with
 | sl id a b c =>
  simp only [LfC] at l ⊢
  cases hq:s[id]? with
  | none=>rw [hq] at l; exact l.elim
  | some b=>rw [hq] at l; obtain ⟨k1,k2⟩:=key id b hq; rw [k1,k2]; exact l
 | ptr id a b c =>
  simp only [LfC] at l ⊢
  cases hq:s[id]? with
  | none=>rw [hq] at l; exact l.elim
  | some b=>rw [hq] at l; obtain ⟨k1,k2⟩:=key id b hq; rw [k1,k2]; exact l
 | mp id =>
  simp only [LfC] at l ⊢
  cases hq:s[id]? with
  | none=>rw [hq] at l; exact l.elim
  | some b=>rw [hq] at l; obtain ⟨k1,k2⟩:=key id b hq; rw [k1,k2]; exact l
 | _=>exact l.elim
end
theorem Ct.liftN {P:Program} {f:FuncId} {args:List AV} {post:AV→List Blk→Prop} (hc:Ct P f args [] post) (ha:args.all nr1=true) (hmp:∀ r s',post r s'→s'.all mpOk=true)
  (s:List Blk):Ct P f args s (fun r2 s2=>∃ r s',post r s'∧r2=shV s.length r∧s2=s++s'.map (shB s.length)):=by
 refine ⟨hc.1,fun h ρ w vs m r=>?_⟩
 have hm0:Mine h (fun _=>none) [] w:=⟨m.mem,fun id blk e=>by simp at e,fun _ _=>rfl,fun i j g t t' e=>by simp at e,fun i g t e=>by simp at e⟩
 refine (hc.2 h (fun _=>none) w vs hm0 ((nofrzL (Lf':=Lf0) r ha).thaw (fun _ _ _ x=>x))).mono ?_
 rintro en w' ⟨v,r,s1,h',ρ1,rfl,hpost,m',lt,rv⟩
 have hgood:∀ i g t,ρ1 i=some (g,t)→w.heap.size ≤ g:=fun i g t e=>by
  rcases lt.newown i g t e with ⟨j,t',hj⟩ | h
  ·cases hj
  ·exact h
 have hblk:∀ k,k < w.heap.size→w'.heap[k]? = w.heap[k]?:=fun k hk=>lt.block k hk (fun i t e=>by cases e)
 have hnew:∀ b o,h b o=none→h' b o ≠ none→w.heap.size ≤ b:=fun b o e n=>by
  rcases lt.hnew b o e n with ⟨j,t',hj⟩ | h
  ·cases hj
  ·exact h
 obtain ⟨ρ2,hρ2⟩:∃ ρ2:Own,ρ2=fun k=>if k < s.length then ρ k else ρ1 (k - s.length):=⟨_,rfl⟩
 have hlo:∀ i,i < s.length→ρ2 i=ρ i:=fun i hi=>by rw [hρ2]; simp [hi]
 have hhi:∀ i,ρ2 (i+s.length)=ρ1 i:=fun i=>by
  rw [hρ2]
  show (if i+s.length < s.length then ρ (i+s.length) else ρ1 (i+s.length - s.length))=_
  rw [if_neg (by omega),Nat.add_sub_cancel]
 have hkeep:∀ v a,Lf ρ s v a→Lf ρ2 (s++s1.map (shB s.length)) v a:=fun v a x=>Lf_app hlo x
 have hst:∀ id,(s++s1.map (shB s.length))[id+s.length]? = (s1[id]?).map (shB s.length):=fun id=>by
  rw [List.getElem?_append_right (by omega),Nat.add_sub_cancel,List.getElem?_map]
 have hown:∀ i g t,ρ2 i=some (g,t)→(i < s.length∧ρ i=some (g,t)∧g < w.heap.size)∨(s.length ≤ i∧ρ1 (i - s.length)=some (g,t)∧w.heap.size ≤ g):=fun i g t e=>by
  by_cases hi:i < s.length
  ·rw [hlo i hi] at e
   exact .inl ⟨hi,e,m.lt e⟩
  ·have e2:ρ2 i=ρ1 (i - s.length):=by rw [← hhi]; congr 1; omega
   rw [e2] at e
   exact .inr ⟨by omega,e,hgood _ g t e⟩
 refine ⟨v,_,_,h',ρ2,rfl,⟨r,s1,hpost,rfl,rfl⟩,⟨m'.mem,?_,?_,?_,?_⟩,⟨lt.hle,fun b o e n=>.inr (hnew b o e n),hkeep,lt.os,lt.tape,lt.output,lt.size,fun k hk _=>hblk k hk,?_⟩,sh_val hst hhi rv⟩
 ·intro i blk e
  by_cases hi:i < s.length
  ·rw [List.getElem?_append_left hi] at e
   exact (m.own i blk e).mono lt.hle hkeep (hlo i hi) (fun g t hg=>hblk g (m.lt hg))
  ·obtain ⟨j,rfl⟩:∃ j,i=j+s.length:=⟨i - s.length,by omega⟩
   rw [hst] at e
   cases hb:s1[j]? with
   | none=>rw [hb] at e; cases e
   | some b =>
    rw [hb] at e
    simp only [Option.map_some,Option.some.injEq] at e
    subst e
    have o:=m'.own j b hb
    have hmb:=List.all_eq_true.1 (hmp _ _ hpost) b (List.mem_of_getElem? hb)
    cases b with
    | arr es l =>
     rcases o with ⟨h1,h2⟩ | ⟨g,tot,cur,t,h1,h2,h3,h4,h5,h6,h7,h8,h9⟩
     ·exact .inl ⟨by simp [h1],(hhi j).trans h2⟩
     ·refine .inr ⟨g,tot,cur,t,(hhi j).trans h1,h2,h3,by simpa using h4,h5,h6,?_,h8,?_⟩
      ·intro x hx
       obtain ⟨y,hy,rfl⟩:=List.mem_map.1 hx
       rw [shC_cells,List.length_map]
       exact h7 y hy
      ·rw [shC_flat,List.length_map]
       exact sh_list hst hhi h9
    | mp es =>
     obtain ⟨g,en,cl,h1,h2,h3,h4,h5⟩:=o
     refine ⟨g,en,cl,(hhi j).trans h1,h2,by rw [lvs_map]; simpa using h3,fun k x y hx hy=>?_,h5.map _⟩
     rw [lvs_map,List.getElem?_map] at hx
     obtain ⟨x',hx',rfl⟩:=Option.map_eq_some_iff.1 hx
     obtain ⟨p,q⟩:=h4 k x' y hx' hy
     exact ⟨p.thaw (fun _ _ _ x=>x),sh_cell hst hhi q⟩
    | it mid n seen=>cases hmb
    | dead=>exact (hhi j).trans o
 ·intro i hi
  simp at hi
  have e2:ρ2 i=ρ1 (i - s.length):=by rw [← hhi]; congr 1; omega
  rw [e2]
  exact m'.out _ (by omega)
 ·intro i j g t t' hi hj
  rcases hown i g t hi with ⟨a1,a2,a3⟩ | ⟨a1,a2,a3⟩ <;> rcases hown j g t' hj with ⟨b1,b2,b3⟩ | ⟨b1,b2,b3⟩
  ·exact m.inj i j g t t' a2 b2
  ·omega
  ·omega
  ·have:=m'.inj _ _ g t t' a2 b2
   omega
 ·intro i g t e o
  rcases hown i g t e with ⟨a1,a2,a3⟩ | ⟨a1,a2,a3⟩
  ·cases hq:h' g o with
   | none=>rfl
   | some z =>
    have:=hnew g o (m.disj i g t a2 o) (by rw [hq]; simp)
    omega
  ·exact m'.disj _ g t a2 o
 ·intro i g t e
  rcases hown i g t e with ⟨a1,a2,a3⟩ | ⟨a1,a2,a3⟩
  ·exact .inl ⟨i,t,a2⟩
  ·exact .inr a3
def allOf (w:World):Mem:=fun b o=>match w.cell? ⟨b,o,none⟩ with
 | some v=>if v.oneCell'=true then some v else none
 | none=>none
theorem allOf_mem {w:World}:∀ b o v,allOf w b o=some v→w.cell? ⟨b,o,none⟩=some v∧v.oneCell'=true:=fun b o v e=>by
 unfold allOf at e
 cases hc:w.cell? ⟨b,o,none⟩ with
 | none=>rw [hc] at e; cases e
 | some u =>
  rw [hc] at e
  simp only at e
  split at e
  ·cases e; exact ⟨rfl,by assumption⟩
  ·cases e
theorem allOf_le {h:Mem} {w:World} (hm:∀ b o v,h b o=some v→w.cell? ⟨b,o,none⟩=some v∧v.oneCell'=true):∀ b o v,h b o=some v→allOf w b o=some v:=fun b o v e=>by
 obtain ⟨h1,h2⟩:=hm b o v e
 unfold allOf
 rw [h1]
 simp [h2]
def bor:Nat→List Blk→AV→AV
 | 0,_,a=>match a with
  | .sl _ _ _ _=>.any
  | .ptr _ _ _ _=>.any
  | .mp _=>.any
  | .agg _=>.any
  | .tup _=>.any
  | .fn _ _=>.any
  | a=>a
 | n+1,s,a=>match a with
  | .sl id off len cap=>match s.getD id .dead with
   | .arr e l=>bif decide (off+cap=l.length) && decide (len ≤ cap) then .fz e (((l.drop off).take len).map fun x=>match x with
    | .agg r=>.agg (r.map (bor n s))
    | x=>bor n s x) else .any
   | _=>.any
  | .ptr _ _ _ _=>.any
  | .mp _=>.any
  | .agg _=>.any
  | .tup _=>.any
  | .fn _ _=>.any
  | a=>a
def borC (n:Nat) (s:List Blk):AV→AV
 | .agg r=>.agg (r.map (bor n s))
 | x=>bor n s x
theorem bor_sl (n:Nat) (s:List Blk) (id off len cap:Nat):bor (n+1) s (.sl id off len cap)=match s.getD id .dead with
   | .arr e l=>bif decide (off+cap=l.length) && decide (len ≤ cap) then .fz e (((l.drop off).take len).map (borC n s)) else .any
   | _=>.any:=rfl
theorem bor_cells (n:Nat) (s:List Blk) (x:AV):cellsOf (borC n s x)=(cellsOf x).map (bor n s):=by
 have key:∀ a,cellsOf (bor n s a)=[bor n s a]:=fun a=>by
  cases n with
  | zero=>cases a <;> rfl
  | succ n =>
   cases a with
   | sl id off len cap =>
    rw [bor_sl]
    split
    ·cases decide (off+cap=_) && decide (len ≤ cap) <;> rfl
    ·rfl
   | _=>rfl
 cases x with
 | agg r=>rfl
 | _=>exact key _
theorem bor_flat (n:Nat) (s:List Blk):∀ l,flat (l.map (borC n s))=(flat l).map (bor n s)
 | []=>rfl
 | x :: r=>by simp only [List.map_cons,flat,bor_cells,bor_flat n s r,List.map_append]
section
variable {h:Mem} {ρ:Own} {s:List Blk} {w:World}
theorem bor_frz {v:Value} {a:AV} (m:Mine h ρ s w) (r:RV h (Lf ρ s) false v a) (hf:frozen a=true):RV (allOf w) Lf0 true v a :=
 (frz_one r hf).thaw (allOf_le m.mem)
theorem bor_list {n:Nat} (hn:∀ {v:Value} {a:AV},RV h (Lf ρ s) false v a→RV (allOf w) Lf0 true v (bor n s a)):∀ {l:List AV} {vs:List Value},RL h (Lf ρ s) false vs l→RL (allOf w) Lf0 true vs (l.map (bor n s))
 | [],_,r=>by cases r; exact .nil
 | a :: l,_,r=>by cases r with | cons r1 r2=>exact .cons (hn r1) (bor_list hn r2)
theorem bor_ok (m:Mine h ρ s w):∀ (n:Nat) {v:Value} {a:AV},RV h (Lf ρ s) false v a→RV (allOf w) Lf0 true v (bor n s a)
 | 0,v,a,r=>by
  cases a with
  | sl id o l c=>exact .any _
  | ptr id m i o=>exact .any _
  | mp id=>exact .any _
  | agg r=>exact .any _
  | tup r=>exact .any _
  | fn f r=>exact .any _
  | _=>exact bor_frz m r rfl
 | n+1,v,a,r=>by
  cases a with
  | sl id off len cap =>
   rw [bor_sl]
   have hl:=(inv_sl r).2
   cases hq:s[id]? with
   | none=>simp only [LfC,hq] at hl
   | some b =>
    have hgd:s.getD id .dead=b:=by rw [List.getD_eq_getElem?_getD,hq]; rfl
    rw [hgd]
    cases b with
    | arr e l =>
     simp only
     cases hd:decide (off+cap=l.length) && decide (len ≤ cap) with
     | false=>exact .any _
     | true =>
      simp only [Bool.and_eq_true,decide_eq_true_eq] at hd
      obtain ⟨hc,hlc⟩:=hd
      simp only [LfC,hq] at hl
      simp only [cond_true]
      rcases hl.2 hc with ⟨rfl,rfl,a,rfl⟩ | ⟨g,tot,h1,rfl,_⟩
      ·simp only [List.take_zero,List.map_nil]
       cases a with
       | none=>simpa [at0] using RV.fznil e
       | some a=>simpa [at0] using RV.fz (h:=allOf w) (Lf:=Lf0) (fl:=true) a.1 a.2 0 e [] [] .nil (by simp) (by simp) (Nat.le_refl _)
      ·rcases m.own id _ hq with ⟨_,hn⟩ | ⟨g',tot',cur,t,h3,h4,h5,h6,h7,h8,h9,h10,h11⟩
       ·rw [hn] at h1; cases h1
       ·rw [h3] at h1
        simp only [Option.some.injEq,Prod.mk.injEq] at h1
        obtain ⟨rfl,rfl⟩:=h1
        have hfl:=flat_length h9
        have hlen:(((l.drop off).take len).map (borC n s)).length=len:=by simp; omega
        have hr:RL (allOf w) Lf0 true (((cur.toList.take (l.length * e)).drop (off * e)).take (len * e)) (flat (((l.drop off).take len).map (borC n s))):=by
         rw [bor_flat,← flat_take (l:=l.drop off) (esz:=e) (fun x hx=>h9 x (List.mem_of_mem_drop hx)) len,← flat_drop h9 off,List.map_take,List.map_drop]
         exact ((bor_list (fun r=>bor_ok m n r) h11).drop _).take _
        have:=RV.fz (h:=allOf w) (Lf:=Lf0) (fl:=true) g' (off * e) (tot' - off) e (((l.drop off).take len).map (borC n s)) _ hr (fun x hx=>by
         obtain ⟨y,hy,rfl⟩:=List.mem_map.1 hx
         rw [bor_cells,List.length_map]
         exact h9 y (List.mem_of_mem_drop (List.mem_of_mem_take hy))) (fun k v hk=>by
         rw [List.getElem?_take] at hk
         split at hk
         ·rw [List.getElem?_drop,List.getElem?_take] at hk
          split at hk
          ·have h12:=h10 v (List.mem_of_getElem? hk)
           unfold allOf
           rw [h4.cell,← Array.getElem?_toList,hk]
           simp [h12]
          ·simp at hk
         ·simp at hk) (by rw [hlen]; omega)
        rwa [hlen] at this
    | _=>exact .any _
  | ptr id m i o=>exact .any _
  | mp id=>exact .any _
  | agg r=>exact .any _
  | tup r=>exact .any _
  | fn f r=>exact .any _
  | _=>exact bor_frz m r rfl
theorem bor_val (m:Mine h ρ s w) (n:Nat) {v:Value} {a:AV} (r:RV h (Lf ρ s) false v a):RV (allOf w) Lf0 true v (borC n s a):=by
 cases a with
 | agg l =>
  obtain ⟨vs,rfl,rl⟩:=inv_agg r
  exact .agg vs _ (bor_list (fun r=>bor_ok m n r) rl)
 | _=>exact bor_ok m n r
theorem bor_args (m:Mine h ρ s w) (n:Nat):∀ {l:List AV} {vs:List Value},RL h (Lf ρ s) false vs l→RL (allOf w) Lf0 true vs (l.map (borC n s))
 | [],_,r=>by cases r; exact .nil
 | a :: l,_,r=>by cases r with | cons r1 r2=>exact .cons (bor_val m n r1) (bor_args m n r2)
end
def flatV:AV→Bool
 | .int _ _=>true
 | .bool _=>true
 | .str _=>true
 | _=>false
theorem Ct.borrow {P:Program} {f:FuncId} {args:List AV} {post:AV→Prop} (n:Nat) (s:List Blk) (hc:Pc P f (args.map (borC n s)) post) (hp:∀ r,post r→flatV r=true):Ct P f args s (fun r s'=>post r∧s'=s):=by
 refine ⟨hc.1,fun h ρ w vs m r=>?_⟩
 refine (hc.2 (allOf w) w vs allOf_mem (bor_args m n r)).mono ?_
 rintro en w' ⟨v,r,h',rfl,hpo,hm',_,_,hs,rv⟩
 refine ⟨v,r,s,h,ρ,rfl,⟨hpo,rfl⟩,m.same hs,Later.same hs,?_⟩
 have:=hp r hpo
 cases rv with
 | int k n=>exact .int k n
 | bool b=>exact .bool b
 | str s=>exact .str s
 | _=>cases this
theorem CtH.borrow {P:Program} {g:Std} {f:FuncId} {args:List AV} {post:AV→Prop} (n:Nat) (s:List Blk) (hc:PcH P g f (args.map (borC n s)) post) (hp:∀ r,post r→flatV r=true):CtH P g f args s (fun r s'=>post r∧s'=s):=by
 refine ⟨hc.1,fun h ρ w vs hg m r=>?_⟩
 refine (hc.2 (allOf w) w vs (fun k o e=>(hg k o e).1) allOf_mem (bor_args m n r)).mono ?_
 rintro en w' ⟨v,r,h',rfl,hpo,hm',_,_,hs,rv⟩
 refine ⟨v,r,s,h,ρ,rfl,⟨hpo,rfl⟩,m.same hs,Later.same hs,?_⟩
 have:=hp r hpo
 cases rv with
 | int k n=>exact .int k n
 | bool b=>exact .bool b
 | str s=>exact .str s
 | _=>cases this
end Go.Av
namespace Go.Av
open Go Go.RowKit
variable [Tr]
def borP (n:Nat) (s:List Blk):AV→AV
 | .ptr id m i off=>match s.getD id .dead with
  | .arr e l=>bif decide (m=l.length) && decide (i < l.length) then .pin e (l.map (borC n s)) i off else .any
  | _=>.any
 | x=>borC n s x
def borF (n:Nat) (s:List Blk):AV→AV
 | .fn f r=>.fn f (r.map (borP n s))
 | x=>borP n s x
section
variable {h:Mem} {ρ:Own} {s:List Blk} {w:World}
theorem borP_ok (m:Mine h ρ s w) (n:Nat) {v:Value} {a:AV} (r:RV h (Lf ρ s) false v a):RV (allOf w) Lf0 true v (borP n s a):=by
 cases a with
 | ptr id k i off =>
  have hl:=(inv_ptr r).2
  simp only [borP]
  cases hq:s[id]? with
  | none =>
   have hgd:s.getD id .dead=.dead:=by rw [List.getD_eq_getElem?_getD,hq]; rfl
   rw [hgd]
   exact .any _
  | some b =>
   have hgd:s.getD id .dead=b:=by rw [List.getD_eq_getElem?_getD,hq]; rfl
   rw [hgd]
   cases b with
   | arr e l =>
    simp only
    cases hd:decide (k=l.length) && decide (i < l.length) with
    | false=>exact .any _
    | true =>
     simp only [Bool.and_eq_true,decide_eq_true_eq] at hd
     obtain ⟨hd1,hd⟩:=hd
     simp only [LfC,hq] at hl
     obtain ⟨_,g,tot,h1,rfl⟩:=hl.2 hd1
     simp only [cond_true]
     rcases m.own id _ hq with ⟨_,hn⟩ | ⟨g',tot',cur,t,h3,h4,h5,h6,h7,h8,h9,h10,h11⟩
     ·rw [hn] at h1; cases h1
     ·rw [h3] at h1
      simp only [Option.some.injEq,Prod.mk.injEq] at h1
      obtain ⟨rfl,rfl⟩:=h1
      have hfl:=flat_length h9
      have hr:RL (allOf w) Lf0 true (cur.toList.take (l.length * e)) (flat (l.map (borC n s))):=by
       rw [bor_flat]
       exact bor_list (fun r=>bor_ok m n r) h11
      have:=RV.pin (h:=allOf w) (Lf:=Lf0) (fl:=true) g' 0 e (l.map (borC n s)) _ i off hr (fun x hx=>by
       obtain ⟨y,hy,rfl⟩:=List.mem_map.1 hx
       rw [bor_cells,List.length_map]
       exact h9 y hy) (fun k v hk=>by
       rw [List.getElem?_take] at hk
       split at hk
       ·have h12:=h10 v (List.mem_of_getElem? hk)
        unfold allOf
        rw [h4.cell,← Array.getElem?_toList,Nat.zero_add,hk]
        simp [h12]
       ·simp at hk) (by rw [List.length_map]; exact hd)
      rwa [Nat.zero_add] at this
   | _=>exact .any _
 | _=>exact bor_val m n r
theorem borP_list (m:Mine h ρ s w) (n:Nat):∀ {l:List AV} {vs:List Value},RL h (Lf ρ s) false vs l→RL (allOf w) Lf0 true vs (l.map (borP n s))
 | [],_,r=>by cases r; exact .nil
 | a :: l,_,r=>by cases r with | cons r1 r2=>exact .cons (borP_ok m n r1) (borP_list m n r2)
theorem borF_ok (m:Mine h ρ s w) (n:Nat) {v:Value} {a:AV} (r:RV h (Lf ρ s) false v a):RV (allOf w) Lf0 true v (borF n s a):=by
 cases a with
 | fn f l =>
  obtain ⟨vs,rfl,rl⟩:=inv_fn r
  exact .fn f vs _ (borP_list m n rl)
 | _=>exact borP_ok m n r
theorem borF_args (m:Mine h ρ s w) (n:Nat):∀ {l:List AV} {vs:List Value},RL h (Lf ρ s) false vs l→RL (allOf w) Lf0 true vs (l.map (borF n s))
 | [],_,r=>by cases r; exact .nil
 | a :: l,_,r=>by cases r with | cons r1 r2=>exact .cons (borF_ok m n r1) (borF_args m n r2)
end
theorem Ct.borrowF {P:Program} {f:FuncId} {args:List AV} {post:AV→Prop} (n:Nat) (s:List Blk) (hc:Pc P f (args.map (borF n s)) post) (hp:∀ r,post r→flatV r=true):Ct P f args s (fun r s'=>post r∧s'=s):=by
 refine ⟨hc.1,fun h ρ w vs m r=>?_⟩
 refine (hc.2 (allOf w) w vs allOf_mem (borF_args m n r)).mono ?_
 rintro en w' ⟨v,r,h',rfl,hpo,hm',_,_,hs,rv⟩
 refine ⟨v,r,s,h,ρ,rfl,⟨hpo,rfl⟩,m.same hs,Later.same hs,?_⟩
 have:=hp r hpo
 cases rv with
 | int k n=>exact .int k n
 | bool b=>exact .bool b
 | str s=>exact .str s
 | _=>cases this
theorem CtH.borrowF {P:Program} {g:Std} {f:FuncId} {args:List AV} {post:AV→Prop} (n:Nat) (s:List Blk) (hc:PcH P g f (args.map (borF n s)) post) (hp:∀ r,post r→flatV r=true):CtH P g f args s (fun r s'=>post r∧s'=s):=by
 refine ⟨hc.1,fun h ρ w vs hg m r=>?_⟩
 refine (hc.2 (allOf w) w vs (fun k o e=>(hg k o e).1) allOf_mem (borF_args m n r)).mono ?_
 rintro en w' ⟨v,r,h',rfl,hpo,hm',_,_,hs,rv⟩
 refine ⟨v,r,s,h,ρ,rfl,⟨hpo,rfl⟩,m.same hs,Later.same hs,?_⟩
 have:=hp r hpo
 cases rv with
 | int k n=>exact .int k n
 | bool b=>exact .bool b
 | str s=>exact .str s
 | _=>cases this
end Go.Av
set_option maxRecDepth 100000
namespace Go.Proofs.YtnfkjpihaficbaaGreatDoor
open Go Go.Av Go.RowKit
structure Rl where
 name:List UInt8
 rate:Int
 start:Int
 long:Int
 drift:Int
structure Wn where
 frm:Int
 to':Int
structure Spt where
 scene:Int
 para:Int
 at':Int
theorem scA_get (l:List Sc) (i:Nat) (h:i < l.length):List.getD (List.map scA l) i .any=.agg [.str l[i].no,.int .i64 l[i].place,.str l[i].set,.int .i64 l[i].time,.fz 2 (l[i].paras.map paA)]:=by simp [List.getD,h,scA]
theorem paA_get (l:List Pa) (i:Nat) (h:i < l.length):List.getD (List.map paA l) i .any=.agg [.int .i64 l[i].kind,.str l[i].text]:=by simp [List.getD,h,paA]
theorem take_map {α β:Type} (f:α→β) (l:List α):(l.map f).take l.length=l.map f:=by rw [← List.length_map f,List.take_length]
theorem nr1_caps {caps:List AV} (hc:caps.all frozen0=true):caps.all nr1=true:=by
 rw [List.all_eq_true] at hc ⊢
 intro x hx
 have:=hc x hx
 cases x <;> first | exact frozen_of0 this | (simp [frozen0] at this)
theorem nr1_cons {a:AV} {caps:List AV} (ha:nr1 a=true) (hc:caps.all frozen0=true):(a :: caps).all nr1=true:=by
 simp only [List.all_cons,ha,nr1_caps hc,Bool.and_self]
def idxP {α:Type} (p:α→Bool) (l:List α):Int:=match l.findIdx? p with
 | some i=>i
 | none=>-1
theorem idxP_none {α:Type} {p:α→Bool} {l:List α} (h:∀ j,(hj:j < l.length)→p l[j]=false):idxP p l=-1:=by
 have:l.findIdx? p=none:=by
  rw [List.findIdx?_eq_none_iff]
  intro x hx
  obtain ⟨j,hj,rfl⟩:=List.getElem_of_mem hx
  exact h j hj
 simp [idxP,this]
theorem idxP_some {α:Type} {p:α→Bool} {l:List α} {i:Nat} (hi:i < l.length) (hp:p l[i]=true) (h:∀ j,(hj:j < i)→p (l[j]'(by omega))=false):idxP p l=i:=by
 have:l.findIdx? p=some i:=by
  rw [List.findIdx?_eq_some_iff_getElem]
  exact ⟨hi,hp,fun j hj=>by simpa using h j hj⟩
 simp [idxP,this]
theorem idxP_any {α:Type} {p:α→Bool} {l:List α}:decide (idxP p l ≥ 0)=l.any p:=by
 unfold idxP
 cases hq:l.findIdx? p with
 | none =>
  rw [List.findIdx?_eq_none_iff] at hq
  have:l.any p=false:=by rw [List.any_eq_false]; intro x hx; simp [hq x hx]
  simp [this]
 | some i =>
  rw [List.findIdx?_eq_some_iff_getElem] at hq
  obtain ⟨hi,hp,_⟩:=hq
  have:l.any p=true:=List.any_eq_true.2 ⟨_,List.getElem_mem hi,hp⟩
  simp [this]
end Go.Proofs.YtnfkjpihaficbaaGreatDoor
namespace Go.Av
open Go Go.RowKit
variable [Tr]
def likeB:Blk→Blk→Prop
 | .arr e l,.arr e' l'=>e=e'∧l.length=l'.length
 | .arr _ _,_=>False
 | _,.arr _ _=>False
 | _,_=>True
def Like (s s':List Blk):Prop:=∀ id,likeB (s.getD id .dead) (s'.getD id .dead)
theorem likeB_refl:∀ b,likeB b b
 | .arr _ _=>⟨rfl,rfl⟩
 | .mp _=>trivial
 | .it ..=>trivial
 | .dead=>trivial
theorem likeB_symm:∀ {a b},likeB a b→likeB b a:=by
 intro a b h
 cases a <;> cases b <;> first | exact ⟨h.1.symm,h.2.symm⟩ | exact trivial | exact h.elim
theorem Like.symm {s s':List Blk} (h:Like s s'):Like s' s:=fun id=>likeB_symm (h id)
def lenOp:Op→Bool
 | .indexAddr .. | .fieldAddr ..=>true
 | .binOp .add .. | .binOp .sub ..=>true
 | _=>false
def isSto:Op→Bool
 | .store ..=>true
 | _=>false
theorem lenOp_calm {op:Op} (h:lenOp op=true):calm op=true:=by
 cases op <;> first | rfl | (exfalso; revert h; simp [lenOp]; done)
theorem xptrAddIf_like {p:Prop} {s s':List Blk} (h:Like s s') (x:AV) (k:Nat):xptrAddIf p s x k=xptrAddIf p s' x k:=by
 unfold xptrAddIf
 split <;> try rfl
 rename_i id n j off
 have:=h id
 cases h1:s.getD id .dead <;> cases h2:s'.getD id .dead <;> rw [h1,h2] at this <;> first | rfl | exact this.elim | skip
 obtain ⟨rfl,e⟩:=this
 simp only [e]
theorem xop_like {P:Program} {e:Env} {s s':List Blk} (h:Like s s') {op:Op} (ho:lenOp op=true):xop false true P e s op=xop false true P e s' op:=by
 cases op <;> try (exfalso; revert ho; simp [lenOp]; done)
 ·rename_i b t x y t2
  cases b <;> try (exfalso; revert ho; simp [lenOp]; done)
  all_goals
   simp only [xop,xbin3]
   split
   ·rfl
   ·unfold xbin2
    split <;> rfl
 ·rename_i t x f
  simp only [xop,xfieldAddr]
  split
  ·exact xptrAddIf_like h _ _
  ·rfl
 ·rename_i t x i
  simp only [xop]
  generalize ev e x=xv
  generalize ev e i=iv
  generalize P.underlying t=td
  unfold xindexAddr
  split
  ·exact xptrAddIf_like h _ _
  ·cases xv <;> try rfl
   rename_i id off len cap
   have:=h id
   simp only
   cases h1:s.getD id .dead <;> cases h2:s'.getD id .dead <;> rw [h1,h2] at this <;> first | rfl | exact this.elim | skip
   obtain ⟨rfl,he⟩:=this
   simp only [he]
  ·rfl
theorem like_set {s:List Blk} {id e:Nat} {l l':List AV} (h:s.getD id .dead=.arr e l) (hl:l.length=l'.length):Like s (s.set id (.arr e l')):=by
 intro k
 by_cases hk:k=id
 ·subst hk
  have:k < s.length:=by
   rcases Nat.lt_or_ge k s.length with h3 | h3
   ·exact h3
   ·simp [List.getD,List.getElem?_eq_none h3] at h
  have e2:(s.set k (.arr e l')).getD k .dead=.arr e l':=by simp [List.getD,this]
  rw [h,e2]
  exact ⟨rfl,hl⟩
 ·have e2:(s.set id (.arr e l')).getD k .dead=s.getD k .dead:=by
   simp only [List.getD,List.getElem?_set_ne (Ne.symm hk)]
  rw [e2]
  exact likeB_refl _
theorem store_like {c:Cx} {ops:Array Oper} {s s1:List Blk} {o:Oper} {cv v:AV} {e:Env} (ho:isSto o.op=true) (h:Does c ops s o cv e v s1):Like s s1:=by
 have hd:DoesOp c s o cv e v s1→Like s s1:=by
  intro h
  unfold DoesOp at h
  cases hop:o.op <;> rw [hop] at ho h <;> try (exfalso; revert ho; simp [isSto]; done)
  rename_i t x u
  simp only [xop] at h
  generalize ev e x=xv at h
  generalize cellsOf (ev e u)=vs at h
  have hx:∀ q,xstore (tsize c.P t) s xv (ev e u)=q→(∃ p w s3,q=.sto p w s3∧Like s s3)∨q=.stuck:=by
   intro q hq
   subst hq
   cases xv <;> try exact .inr rfl
   rename_i id n j off
   simp only [xstore]
   cases hb:s.getD id .dead with
   | arr e' l=>exact .inl ⟨_,_,_,rfl,like_set hb (by simp)⟩
   | mp es=>exact .inr rfl
   | it a b c=>exact .inr rfl
   | dead=>exact .inr rfl
  rcases hx _ rfl with ⟨p,w,s3,e1,e2⟩ | e1
  ·rw [e1] at h
   simp only at h
   rw [h.2.2.2]
   exact e2
  ·rw [e1] at h
   exact h.elim
 unfold Does at h
 split at h
 ·exact hd h
 ·split at h
  ·rcases h with ⟨_,h⟩ | ⟨_,_,rfl⟩
   ·exact hd h
   ·exact fun _=>likeB_refl _
  ·exact h.elim
theorem DoesOp.like {c:Cx} {s s' s2:List Blk} {o:Oper} {cv v:AV} {e:Env} (hc:lenOp o.op=true) (hl:Like s s2) (h:DoesOp c s o cv e v s'):DoesOp c s2 o cv e v s2:=by
 have hcc:=lenOp_calm hc
 unfold DoesOp at h ⊢
 rw [xop_like hl hc] at h
 split at h <;> rename_i hq
 ·exact ⟨h.1,rfl⟩
 ·exact ⟨h.1,h.2.1,rfl⟩
 ·rw [hcc] at h; cases h.1
 ·exact ⟨h.1,rfl⟩
 ·exact ⟨h.1,h.2.1,h.2.2.1,rfl⟩
 ·exact h.elim
theorem Does.like {c:Cx} {ops:Array Oper} {s s' s2:List Blk} {o:Oper} {cv v:AV} {e:Env} (hc:lenOp o.op=true) (hl:Like s s2) (h:Does c ops s o cv e v s'):Does c ops s2 o cv e v s2:=by
 unfold Does at h ⊢
 split at h
 ·exact h.like hc hl
 ·split at h
  ·rcases h with ⟨h1,h⟩ | ⟨h1,h2,h⟩
   ·exact .inl ⟨h1,h.like hc hl⟩
   ·exact .inr ⟨h1,h2,rfl⟩
  ·exact h.elim
def swp (x y:Oper):Bool:=lenOp x.op && isSto y.op || isSto x.op && lenOp y.op
def okSw (ops:List Oper) (j i:Nat):Bool:=match ops[j]?,ops[i]? with
 | some oj,some oi=>oj.apart ops.toArray oi && (together oj oi || swp oj oi)
 | _,_=>false
section
variable {cx:Cx} {ops:Array Oper} {s:List Blk} {K:Env→List Blk→Prop}
theorem Chain.swapS {opl:List Oper} (hops:ops=opl.toArray) (hK:∀ e e' s,Eqv e e'→K e s→K e' s) {i j:Nat} {r:List Nat} (hok:okSw opl j i=true) {e:Env} {s:List Blk} (c:Chain cx ops K (j :: i :: r) e s) :
  Chain cx ops K (i :: j :: r) e s:=by
 unfold okSw at hok
 split at hok
 rotate_left
 ·cases hok
 rename_i oj oi hj' hi'
 have hj:ops[j]? = some oj:=by rw [hops]; simpa using hj'
 have hi:ops[i]? = some oi:=by rw [hops]; simpa using hi'
 simp only [Bool.and_eq_true,Bool.or_eq_true] at hok
 obtain ⟨ha,hok⟩:=hok
 rw [← hops] at ha
 rcases hok with hok | hok
 ·exact Chain.swap hK hj hi ha hok c
 obtain ⟨a1,a2,a3⟩:=Oper.apart_spec ha
 simp only [Chain,hj,hi] at c ⊢
 obtain ⟨cv,v,s1,h1,cu,u,s2,h2,h3⟩:=c
 have h2':Does cx ops s1 oi cu e u s2:=h2.agree fun t ht=>by
  rw [get_put,if_neg]; intro h; exact a1 t h ht
 have h1':∀ {z z'},Does cx ops z oj cv e v z'→Does cx ops z oj cv (put e oi.dst u) v z':=fun hd=>hd.agree fun t ht=>by
  rw [get_put,if_neg]; intro h; exact a3 t h ht
 have h3':=Chain.congr hK (put_swap a2) h3
 simp only [swp,Bool.or_eq_true,Bool.and_eq_true] at hok
 rcases hok with ⟨c1,c2⟩ | ⟨c1,c2⟩
 ·have e1:=h1.calm (lenOp_calm c1)
  subst e1
  exact ⟨cu,u,_,h2',cv,v,_,h1' (h1.like c1 (store_like c2 h2')),h3'⟩
 ·have e2:=h2.calm (lenOp_calm c2)
  subst e2
  exact ⟨cu,u,_,h2'.like c2 (store_like c1 h1).symm,cv,v,_,h1' h1,h3'⟩
theorem Chain.frontS {opl:List Oper} (hops:ops=opl.toArray) (hK:∀ e e' s,Eqv e e'→K e s→K e' s) {i:Nat} {r:List Nat}:∀ {l:List Nat} {e:Env} {s:List Blk},(∀ j ∈ l,okSw opl j i=true) →
  Chain cx ops K (l++i :: r) e s→Chain cx ops K (i :: (l++r)) e s
 | [],_,_,_,c=>c
 | j :: l,e,s,h,c=>by
  refine Chain.swapS hops hK (h j (by simp)) ?_
  simp only [List.cons_append,Chain] at c ⊢
  split at c
  ·rename_i o ho
   obtain ⟨cv,v,s',h1,h2⟩:=c
   exact ⟨cv,v,s',h1,Chain.frontS hops hK (fun k hk=>h k (by simp [hk])) h2⟩
  ·exact c.elim
end
section
variable {c:Cx} {k:List It} {e:Env} {s:List Blk}
theorem adrawS (cs:List AV) {id:Nat} {ops:List Oper} (hm:c.P.follows .mixedOrders=true) (hok:drawOkG (okSw ops) ops=true) {N:Nat} (hN:c.fn.ntmps=N) (hdst:ops.all (fun o=>dOk N o.dst)=true) (n:Nat)
  (h:dx c ops k n ops cs e s):AWp c (.code (.region id ops.toArray true) :: k) e s:=by
 intro a w hsim
 have hch:=chain_of_dx (m:=0) (by intro j; simp) h
 rw [← List.range_eq_range'] at hch
 refine wp_region_any hm ?_
 have hsim':Sim c e s a { w with drawn:=w.drawn+1 }:=by
  obtain ⟨hh,ρ,hmm,hl,he,hdf,hsz,hX⟩:=hsim
  have sm:Same w { w with drawn:=w.drawn+1 }:=Same.drew w
  exact ⟨hh,ρ,hmm.same sm,hl.trans (Later.same sm),he,hdf,hsz,c.hx.later hmm (Later.same sm) hX⟩
 have hd:∀ o ∈ ops,dOk c.fn.ntmps o.dst=true:=fun o ho=>by rw [hN]; exact (List.all_eq_true.1 hdst) o ho
 refine any_of_gen (okp:=okSw ops) (Chain c ops.toArray (fun e s=>AWp c k e s)) hok (fun e s x=>x) (fun l i r e s hj x=>Chain.frontS rfl AWp.K hj x)
  (fun i o r e s a w Kc ho x hs hK=>?_)
  ops.length (Array.replicate ops.length false) (List.range ops.length) e s a _ (by simp) ?_ (by simp) ?_ hch hsim'
 ·have ho':ops.toArray[i]? = some o:=by simpa using ho
  simp only [Chain,ho'] at x
  obtain ⟨cv,v,s',h1,h2⟩:=x
  exact does_wp hs (hd o (List.mem_of_getElem? ho)) h1 fun a w hs'=>hK _ _ a w h2 hs'
 ·symm
  rw [List.filter_eq_self]
  intro i hi
  simp at hi
  simp [hi]
 ·intro i hi j hj
  exfalso
  by_cases h1:i < ops.length
  ·simp [h1] at hi
  ·unfold waits at hj
   have:ops[i]? = none:=by simp; omega
   simp [this] at hj
end
end Go.Av
namespace Go.Av
open Go Go.RowKit
variable [Tr]
variable {c:Cx} {s:List Blk}
end Go.Av
