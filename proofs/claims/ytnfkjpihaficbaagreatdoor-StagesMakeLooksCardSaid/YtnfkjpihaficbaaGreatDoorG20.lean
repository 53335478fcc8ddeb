/- A call that makes new blocks, over every table; a call that only reads, at memory of one's own. Own work of this seat. -/
import Derived.Test.YtnfkjpihaficbaaGreatDoorG19
set_option linter.unusedSimpArgs false
set_option linter.unusedVariables false
set_option linter.unusedSectionVars false
namespace Go.Av
open Go Go.RowKit
variable [Tr]
def sh1 (n:Nat):AV→AV
 | .sl id o l c=>.sl (id+n) o l c
 | .ptr id m i o=>.ptr (id+n) m i o
 | .mp id=>.mp (id+n)
 | .agg _=>.any
 | .tup _=>.any
 | .fn _ _=>.any
 | a=>a
def shC (n:Nat):AV→AV
 | .agg r=>.agg (r.map (sh1 n))
 | a=>sh1 n a
def shV (n:Nat):AV→AV
 | .tup r=>.tup (r.map (shC n))
 | .agg r=>.agg (r.map (sh1 n))
 | a=>sh1 n a
def shB (n:Nat):Blk→Blk
 | .arr e l=>.arr e (l.map (shC n))
 | .mp es=>.mp (es.map fun x=>(x.1,shC n x.2))
 | b=>b
section
variable {h:Mem} {ρ1 ρ2:Own} {s1 s2:List Blk} {n:Nat}
theorem sh_leaf (hs:∀ id,s2[id+n]? = (s1[id]?).map (shB n)) (hr:∀ id,ρ2 (id+n)=ρ1 id) {v:Value} {a:AV} (l:Lf ρ1 s1 v a):Lf ρ2 s2 v (sh1 n a):=by
 refine ⟨l.1,?_⟩
 have l:=l.2
 cases a with
 | sl id a b c =>
  simp only [sh1,LfC,hs,hr] at l ⊢
  cases hq:s1[id]? with
  | none=>rw [hq] at l; exact l.elim
  | some b=>rw [hq] at l; cases b <;> simp only [Option.map_some,shB,List.length_map] at l ⊢ <;> exact l
 | ptr id a b c =>
  simp only [sh1,LfC,hs,hr] at l ⊢
  cases hq:s1[id]? with
  | none=>rw [hq] at l; exact l.elim
  | some b=>rw [hq] at l; cases b <;> simp only [Option.map_some,shB,List.length_map] at l ⊢ <;> exact l
 | mp id =>
  simp only [sh1,LfC,hs,hr] at l ⊢
  cases hq:s1[id]? with
  | none=>rw [hq] at l; exact l.elim
  | some b=>rw [hq] at l; cases b <;> simp only [Option.map_some,shB] at l ⊢ <;> exact l
 | _=>exact l.elim
theorem sh_one (hs:∀ id,s2[id+n]? = (s1[id]?).map (shB n)) (hr:∀ id,ρ2 (id+n)=ρ1 id) {v:Value} {a:AV} (r:RV h (Lf ρ1 s1) false v a):RV h (Lf ρ2 s2) false v (sh1 n a):=by
 have frz:frozen a=true→RV h (Lf ρ2 s2) false v a:=fun hf=>(frz_one r hf).thaw (fun _ _ _ x=>x)
 cases a with
 | sl id o l c=>exact .leaf (sh_leaf hs hr (inv_sl r))
 | ptr id n i o=>exact .leaf (sh_leaf hs hr (inv_ptr r))
 | mp id=>exact .leaf (sh_leaf hs hr (inv_mp r))
 | agg r=>exact .any _
 | tup r=>exact .any _
 | fn f r=>exact .any _
 | _=>exact frz rfl
theorem sh_list (hs:∀ id,s2[id+n]? = (s1[id]?).map (shB n)) (hr:∀ id,ρ2 (id+n)=ρ1 id):∀ {l:List AV} {vs:List Value},RL h (Lf ρ1 s1) false vs l→RL h (Lf ρ2 s2) false vs (l.map (sh1 n))
 | [],_,r=>by cases r; exact .nil
 | a :: l,_,r=>by cases r with | cons r1 r2=>exact .cons (sh_one hs hr r1) (sh_list hs hr r2)
theorem sh_cell (hs:∀ id,s2[id+n]? = (s1[id]?).map (shB n)) (hr:∀ id,ρ2 (id+n)=ρ1 id) {v:Value} {a:AV} (r:RV h (Lf ρ1 s1) false v a):RV h (Lf ρ2 s2) false v (shC n a):=by
 cases a with
 | agg l =>
  obtain ⟨vs,rfl,rl⟩:=inv_agg r
  exact .agg vs _ (sh_list hs hr rl)
 | _=>exact sh_one hs hr r
theorem sh_cells (hs:∀ id,s2[id+n]? = (s1[id]?).map (shB n)) (hr:∀ id,ρ2 (id+n)=ρ1 id):∀ {l:List AV} {vs:List Value},RL h (Lf ρ1 s1) false vs l→RL h (Lf ρ2 s2) false vs (l.map (shC n))
 | [],_,r=>by cases r; exact .nil
 | a :: l,_,r=>by cases r with | cons r1 r2=>exact .cons (sh_cell hs hr r1) (sh_cells hs hr r2)
theorem sh_val (hs:∀ id,s2[id+n]? = (s1[id]?).map (shB n)) (hr:∀ id,ρ2 (id+n)=ρ1 id) {v:Value} {a:AV} (r:RV h (Lf ρ1 s1) false v a):RV h (Lf ρ2 s2) false v (shV n a):=by
 cases a with
 | tup l =>
  obtain ⟨vs,rfl,rl⟩:=inv_tup r
  exact .tup vs _ (sh_cells hs hr rl)
 | agg l =>
  obtain ⟨vs,rfl,rl⟩:=inv_agg r
  exact .agg vs _ (sh_list hs hr rl)
 | _=>exact sh_one hs hr r
theorem shC_cells (n:Nat) (x:AV):cellsOf (shC n x)=(cellsOf x).map (sh1 n):=by cases x <;> rfl
theorem shC_flat (n:Nat):∀ l,flat (l.map (shC n))=(flat l).map (sh1 n)
 | []=>rfl
 | x :: r=>by simp only [List.map_cons,flat,shC_cells,shC_flat n r,List.map_append]
theorem Lf_app {ρ ρ2:Own} {s t:List Blk} (hr:∀ i,i < s.length→ρ2 i=ρ i) {v:Value} {a:AV} (l:Lf ρ s v a):Lf ρ2 (s++t) v a:=by
 refine ⟨l.1,?_⟩
 have l:=l.2
 have key:∀ id b,s[id]? = some b→(s++t)[id]? = some b∧ρ2 id=ρ id:=fun id b hb=>by
  have hi:=(List.getElem?_eq_some_iff.1 hb).1
  exact ⟨by rw [List.getElem?_append_left hi,hb],hr id hi⟩
 cases a with
 | sl id a b c =>
  simp only [LfC] at l ⊢
  cases hq:s[id]? with
  | none=>rw [hq] at l; exact l.elim
  | some b=>rw [hq] at l; obtain ⟨k1,k2⟩:=key id b hq; rw [k1,k2]; exact l
 | ptr id a b c =>
  simp only [LfC] at l ⊢
  cases hq:s[id]? with
  | none=>rw [hq] at l; exact l.elim
  | some b=>rw [hq] at l; obtain ⟨k1,k2⟩:=key id b hq; rw [k1,k2]; exact l
 | mp id =>
  simp only [LfC] at l ⊢
  cases hq:s[id]? with
  | none=>rw [hq] at l; exact l.elim
  | some b=>rw [hq] at l; obtain ⟨k1,k2⟩:=key id b hq; rw [k1,k2]; exact l
 | _=>exact l.elim
end
theorem Ct.liftN {P:Program} {f:FuncId} {args:List AV} {post:AV→List Blk→Prop} (hc:Ct P f args [] post) (ha:args.all nr1=true) (hmp:∀ r s',post r s'→s'.all mpOk=true)
  (s:List Blk):Ct P f args s (fun r2 s2=>∃ r s',post r s'∧r2=shV s.length r∧s2=s++s'.map (shB s.length)):=by
 refine ⟨hc.1,fun h ρ w vs m r=>?_⟩
 have hm0:Mine h (fun _=>none) [] w:=⟨m.mem,fun id blk e=>by simp at e,fun _ _=>rfl,fun i j g t t' e=>by simp at e,fun i g t e=>by simp at e⟩
 refine (hc.2 h (fun _=>none) w vs hm0 ((nofrzL (Lf':=Lf0) r ha).thaw (fun _ _ _ x=>x))).mono ?_
 rintro en w' ⟨v,r,s1,h',ρ1,rfl,hpost,m',lt,rv⟩
 have hgood:∀ i g t,ρ1 i=some (g,t)→w.heap.size ≤ g:=fun i g t e=>by
  rcases lt.newown i g t e with ⟨j,t',hj⟩ | h
  ·cases hj
  ·exact h
 have hblk:∀ k,k < w.heap.size→w'.heap[k]? = w.heap[k]?:=fun k hk=>lt.block k hk (fun i t e=>by cases e)
 have hnew:∀ b o,h b o=none→h' b o ≠ none→w.heap.size ≤ b:=fun b o e n=>by
  rcases lt.hnew b o e n with ⟨j,t',hj⟩ | h
  ·cases hj
  ·exact h
 obtain ⟨ρ2,hρ2⟩:∃ ρ2:Own,ρ2=fun k=>if k < s.length then ρ k else ρ1 (k - s.length):=⟨_,rfl⟩
 have hlo:∀ i,i < s.length→ρ2 i=ρ i:=fun i hi=>by rw [hρ2]; simp [hi]
 have hhi:∀ i,ρ2 (i+s.length)=ρ1 i:=fun i=>by
  rw [hρ2]
  show (if i+s.length < s.length then ρ (i+s.length) else ρ1 (i+s.length - s.length))=_
  rw [if_neg (by omega),Nat.add_sub_cancel]
 have hkeep:∀ v a,Lf ρ s v a→Lf ρ2 (s++s1.map (shB s.length)) v a:=fun v a x=>Lf_app hlo x
 have hst:∀ id,(s++s1.map (shB s.length))[id+s.length]? = (s1[id]?).map (shB s.length):=fun id=>by
  rw [List.getElem?_append_right (by omega),Nat.add_sub_cancel,List.getElem?_map]
 have hown:∀ i g t,ρ2 i=some (g,t)→(i < s.length∧ρ i=some (g,t)∧g < w.heap.size)∨(s.length ≤ i∧ρ1 (i - s.length)=some (g,t)∧w.heap.size ≤ g):=fun i g t e=>by
  by_cases hi:i < s.length
  ·rw [hlo i hi] at e
   exact .inl ⟨hi,e,m.lt e⟩
  ·have e2:ρ2 i=ρ1 (i - s.length):=by rw [← hhi]; congr 1; omega
   rw [e2] at e
   exact .inr ⟨by omega,e,hgood _ g t e⟩
 refine ⟨v,_,_,h',ρ2,rfl,⟨r,s1,hpost,rfl,rfl⟩,⟨m'.mem,?_,?_,?_,?_⟩,⟨lt.hle,fun b o e n=>.inr (hnew b o e n),hkeep,lt.os,lt.tape,lt.output,lt.size,fun k hk _=>hblk k hk,?_⟩,sh_val hst hhi rv⟩
 ·intro i blk e
  by_cases hi:i < s.length
  ·rw [List.getElem?_append_left hi] at e
   exact (m.own i blk e).mono lt.hle hkeep (hlo i hi) (fun g t hg=>hblk g (m.lt hg))
  ·obtain ⟨j,rfl⟩:∃ j,i=j+s.length:=⟨i - s.length,by omega⟩
   rw [hst] at e
   cases hb:s1[j]? with
   | none=>rw [hb] at e; cases e
   | some b =>
    rw [hb] at e
    simp only [Option.map_some,Option.some.injEq] at e
    subst e
    have o:=m'.own j b hb
    have hmb:=List.all_eq_true.1 (hmp _ _ hpost) b (List.mem_of_getElem? hb)
    cases b with
    | arr es l =>
     rcases o with ⟨h1,h2⟩ | ⟨g,tot,cur,t,h1,h2,h3,h4,h5,h6,h7,h8,h9⟩
     ·exact .inl ⟨by simp [h1],(hhi j).trans h2⟩
     ·refine .inr ⟨g,tot,cur,t,(hhi j).trans h1,h2,h3,by simpa using h4,h5,h6,?_,h8,?_⟩
      ·intro x hx
       obtain ⟨y,hy,rfl⟩:=List.mem_map.1 hx
       rw [shC_cells,List.length_map]
       exact h7 y hy
      ·rw [shC_flat,List.length_map]
       exact sh_list hst hhi h9
    | mp es =>
     obtain ⟨g,en,cl,h1,h2,h3,h4,h5⟩:=o
     refine ⟨g,en,cl,(hhi j).trans h1,h2,by rw [lvs_map]; simpa using h3,fun k x y hx hy=>?_,h5.map _⟩
     rw [lvs_map,List.getElem?_map] at hx
     obtain ⟨x',hx',rfl⟩:=Option.map_eq_some_iff.1 hx
     obtain ⟨p,q⟩:=h4 k x' y hx' hy
     exact ⟨p.thaw (fun _ _ _ x=>x),sh_cell hst hhi q⟩
    | it mid n seen=>cases hmb
    | dead=>exact (hhi j).trans o
 ·intro i hi
  simp at hi
  have e2:ρ2 i=ρ1 (i - s.length):=by rw [← hhi]; congr 1; omega
  rw [e2]
  exact m'.out _ (by omega)
 ·intro i j g t t' hi hj
  rcases hown i g t hi with ⟨a1,a2,a3⟩ | ⟨a1,a2,a3⟩ <;> rcases hown j g t' hj with ⟨b1,b2,b3⟩ | ⟨b1,b2,b3⟩
  ·exact m.inj i j g t t' a2 b2
  ·omega
  ·omega
  ·have:=m'.inj _ _ g t t' a2 b2
   omega
 ·intro i g t e o
  rcases hown i g t e with ⟨a1,a2,a3⟩ | ⟨a1,a2,a3⟩
  ·cases hq:h' g o with
   | none=>rfl
   | some z =>
    have:=hnew g o (m.disj i g t a2 o) (by rw [hq]; simp)
    omega
  ·exact m'.disj _ g t a2 o
 ·intro i g t e
  rcases hown i g t e with ⟨a1,a2,a3⟩ | ⟨a1,a2,a3⟩
  ·exact .inl ⟨i,t,a2⟩
  ·exact .inr a3
def allOf (w:World):Mem:=fun b o=>match w.cell? ⟨b,o,none⟩ with
 | some v=>if v.oneCell'=true then some v else none
 | none=>none
theorem allOf_mem {w:World}:∀ b o v,allOf w b o=some v→w.cell? ⟨b,o,none⟩=some v∧v.oneCell'=true:=fun b o v e=>by
 unfold allOf at e
 cases hc:w.cell? ⟨b,o,none⟩ with
 | none=>rw [hc] at e; cases e
 | some u =>
  rw [hc] at e
  simp only at e
  split at e
  ·cases e; exact ⟨rfl,by assumption⟩
  ·cases e
theorem allOf_le {h:Mem} {w:World} (hm:∀ b o v,h b o=some v→w.cell? ⟨b,o,none⟩=some v∧v.oneCell'=true):∀ b o v,h b o=some v→allOf w b o=some v:=fun b o v e=>by
 obtain ⟨h1,h2⟩:=hm b o v e
 unfold allOf
 rw [h1]
 simp [h2]
def bor:Nat→List Blk→AV→AV
 | 0,_,a=>match a with
  | .sl _ _ _ _=>.any
  | .ptr _ _ _ _=>.any
  | .mp _=>.any
  | .agg _=>.any
  | .tup _=>.any
  | .fn _ _=>.any
  | a=>a
 | n+1,s,a=>match a with
  | .sl id off len cap=>match s.getD id .dead with
   | .arr e l=>bif decide (off+cap=l.length) && decide (len ≤ cap) then .fz e (((l.drop off).take len).map fun x=>match x with
    | .agg r=>.agg (r.map (bor n s))
    | x=>bor n s x) else .any
   | _=>.any
  | .ptr _ _ _ _=>.any
  | .mp _=>.any
  | .agg _=>.any
  | .tup _=>.any
  | .fn _ _=>.any
  | a=>a
def borC (n:Nat) (s:List Blk):AV→AV
 | .agg r=>.agg (r.map (bor n s))
 | x=>bor n s x
theorem bor_sl (n:Nat) (s:List Blk) (id off len cap:Nat):bor (n+1) s (.sl id off len cap)=match s.getD id .dead with
   | .arr e l=>bif decide (off+cap=l.length) && decide (len ≤ cap) then .fz e (((l.drop off).take len).map (borC n s)) else .any
   | _=>.any:=rfl
theorem bor_cells (n:Nat) (s:List Blk) (x:AV):cellsOf (borC n s x)=(cellsOf x).map (bor n s):=by
 have key:∀ a,cellsOf (bor n s a)=[bor n s a]:=fun a=>by
  cases n with
  | zero=>cases a <;> rfl
  | succ n =>
   cases a with
   | sl id off len cap =>
    rw [bor_sl]
    split
    ·cases decide (off+cap=_) && decide (len ≤ cap) <;> rfl
    ·rfl
   | _=>rfl
 cases x with
 | agg r=>rfl
 | _=>exact key _
theorem bor_flat (n:Nat) (s:List Blk):∀ l,flat (l.map (borC n s))=(flat l).map (bor n s)
 | []=>rfl
 | x :: r=>by simp only [List.map_cons,flat,bor_cells,bor_flat n s r,List.map_append]
section
variable {h:Mem} {ρ:Own} {s:List Blk} {w:World}
theorem bor_frz {v:Value} {a:AV} (m:Mine h ρ s w) (r:RV h (Lf ρ s) false v a) (hf:frozen a=true):RV (allOf w) Lf0 true v a :=
 (frz_one r hf).thaw (allOf_le m.mem)
theorem bor_list {n:Nat} (hn:∀ {v:Value} {a:AV},RV h (Lf ρ s) false v a→RV (allOf w) Lf0 true v (bor n s a)):∀ {l:List AV} {vs:List Value},RL h (Lf ρ s) false vs l→RL (allOf w) Lf0 true vs (l.map (bor n s))
 | [],_,r=>by cases r; exact .nil
 | a :: l,_,r=>by cases r with | cons r1 r2=>exact .cons (hn r1) (bor_list hn r2)
theorem bor_ok (m:Mine h ρ s w):∀ (n:Nat) {v:Value} {a:AV},RV h (Lf ρ s) false v a→RV (allOf w) Lf0 true v (bor n s a)
 | 0,v,a,r=>by
  cases a with
  | sl id o l c=>exact .any _
  | ptr id m i o=>exact .any _
  | mp id=>exact .any _
  | agg r=>exact .any _
  | tup r=>exact .any _
  | fn f r=>exact .any _
  | _=>exact bor_frz m r rfl
 | n+1,v,a,r=>by
  cases a with
  | sl id off len cap =>
   rw [bor_sl]
   have hl:=(inv_sl r).2
   cases hq:s[id]? with
   | none=>simp only [LfC,hq] at hl
   | some b =>
    have hgd:s.getD id .dead=b:=by rw [List.getD_eq_getElem?_getD,hq]; rfl
    rw [hgd]
    cases b with
    | arr e l =>
     simp only
     cases hd:decide (off+cap=l.length) && decide (len ≤ cap) with
     | false=>exact .any _
     | true =>
      simp only [Bool.and_eq_true,decide_eq_true_eq] at hd
      obtain ⟨hc,hlc⟩:=hd
      simp only [LfC,hq] at hl
      simp only [cond_true]
      rcases hl.2 hc with ⟨rfl,rfl,a,rfl⟩ | ⟨g,tot,h1,rfl,_⟩
      ·simp only [List.take_zero,List.map_nil]
       cases a with
       | none=>simpa [at0] using RV.fznil e
       | some a=>simpa [at0] using RV.fz (h:=allOf w) (Lf:=Lf0) (fl:=true) a.1 a.2 0 e [] [] .nil (by simp) (by simp) (Nat.le_refl _)
      ·rcases m.own id _ hq with ⟨_,hn⟩ | ⟨g',tot',cur,t,h3,h4,h5,h6,h7,h8,h9,h10,h11⟩
       ·rw [hn] at h1; cases h1
       ·rw [h3] at h1
        simp only [Option.some.injEq,Prod.mk.injEq] at h1
        obtain ⟨rfl,rfl⟩:=h1
        have hfl:=flat_length h9
        have hlen:(((l.drop off).take len).map (borC n s)).length=len:=by simp; omega
        have hr:RL (allOf w) Lf0 true (((cur.toList.take (l.length * e)).drop (off * e)).take (len * e)) (flat (((l.drop off).take len).map (borC n s))):=by
         rw [bor_flat,← flat_take (l:=l.drop off) (esz:=e) (fun x hx=>h9 x (List.mem_of_mem_drop hx)) len,← flat_drop h9 off,List.map_take,List.map_drop]
         exact ((bor_list (fun r=>bor_ok m n r) h11).drop _).take _
        have:=RV.fz (h:=allOf w) (Lf:=Lf0) (fl:=true) g' (off * e) (tot' - off) e (((l.drop off).take len).map (borC n s)) _ hr (fun x hx=>by
         obtain ⟨y,hy,rfl⟩:=List.mem_map.1 hx
         rw [bor_cells,List.length_map]
         exact h9 y (List.mem_of_mem_drop (List.mem_of_mem_take hy))) (fun k v hk=>by
         rw [List.getElem?_take] at hk
         split at hk
         ·rw [List.getElem?_drop,List.getElem?_take] at hk
          split at hk
          ·have h12:=h10 v (List.mem_of_getElem? hk)
           unfold allOf
           rw [h4.cell,← Array.getElem?_toList,hk]
           simp [h12]
          ·simp at hk
         ·simp at hk) (by rw [hlen]; omega)
        rwa [hlen] at this
    | _=>exact .any _
  | ptr id m i o=>exact .any _
  | mp id=>exact .any _
  | agg r=>exact .any _
  | tup r=>exact .any _
  | fn f r=>exact .any _
  | _=>exact bor_frz m r rfl
theorem bor_val (m:Mine h ρ s w) (n:Nat) {v:Value} {a:AV} (r:RV h (Lf ρ s) false v a):RV (allOf w) Lf0 true v (borC n s a):=by
 cases a with
 | agg l =>
  obtain ⟨vs,rfl,rl⟩:=inv_agg r
  exact .agg vs _ (bor_list (fun r=>bor_ok m n r) rl)
 | _=>exact bor_ok m n r
theorem bor_args (m:Mine h ρ s w) (n:Nat):∀ {l:List AV} {vs:List Value},RL h (Lf ρ s) false vs l→RL (allOf w) Lf0 true vs (l.map (borC n s))
 | [],_,r=>by cases r; exact .nil
 | a :: l,_,r=>by cases r with | cons r1 r2=>exact .cons (bor_val m n r1) (bor_args m n r2)
end
def flatV:AV→Bool
 | .int _ _=>true
 | .bool _=>true
 | .str _=>true
 | _=>false
theorem Ct.borrow {P:Program} {f:FuncId} {args:List AV} {post:AV→Prop} (n:Nat) (s:List Blk) (hc:Pc P f (args.map (borC n s)) post) (hp:∀ r,post r→flatV r=true):Ct P f args s (fun r s'=>post r∧s'=s):=by
 refine ⟨hc.1,fun h ρ w vs m r=>?_⟩
 refine (hc.2 (allOf w) w vs allOf_mem (bor_args m n r)).mono ?_
 rintro en w' ⟨v,r,h',rfl,hpo,hm',_,_,hs,rv⟩
 refine ⟨v,r,s,h,ρ,rfl,⟨hpo,rfl⟩,m.same hs,Later.same hs,?_⟩
 have:=hp r hpo
 cases rv with
 | int k n=>exact .int k n
 | bool b=>exact .bool b
 | str s=>exact .str s
 | _=>cases this
theorem CtH.borrow {P:Program} {g:Std} {f:FuncId} {args:List AV} {post:AV→Prop} (n:Nat) (s:List Blk) (hc:PcH P g f (args.map (borC n s)) post) (hp:∀ r,post r→flatV r=true):CtH P g f args s (fun r s'=>post r∧s'=s):=by
 refine ⟨hc.1,fun h ρ w vs hg m r=>?_⟩
 refine (hc.2 (allOf w) w vs (fun k o e=>(hg k o e).1) allOf_mem (bor_args m n r)).mono ?_
 rintro en w' ⟨v,r,h',rfl,hpo,hm',_,_,hs,rv⟩
 refine ⟨v,r,s,h,ρ,rfl,⟨hpo,rfl⟩,m.same hs,Later.same hs,?_⟩
 have:=hp r hpo
 cases rv with
 | int k n=>exact .int k n
 | bool b=>exact .bool b
 | str s=>exact .str s
 | _=>cases this
end Go.Av
namespace Go.Av
open Go Go.RowKit
variable [Tr]
def borP (n:Nat) (s:List Blk):AV→AV
 | .ptr id m i off=>match s.getD id .dead with
  | .arr e l=>bif decide (m=l.length) && decide (i < l.length) then .pin e (l.map (borC n s)) i off else .any
  | _=>.any
 | x=>borC n s x
def borF (n:Nat) (s:List Blk):AV→AV
 | .fn f r=>.fn f (r.map (borP n s))
 | x=>borP n s x
section
variable {h:Mem} {ρ:Own} {s:List Blk} {w:World}
theorem borP_ok (m:Mine h ρ s w) (n:Nat) {v:Value} {a:AV} (r:RV h (Lf ρ s) false v a):RV (allOf w) Lf0 true v (borP n s a):=by
 cases a with
 | ptr id k i off =>
  have hl:=(inv_ptr r).2
  simp only [borP]
  cases hq:s[id]? with
  | none =>
   have hgd:s.getD id .dead=.dead:=by rw [List.getD_eq_getElem?_getD,hq]; rfl
   rw [hgd]
   exact .any _
  | some b =>
   have hgd:s.getD id .dead=b:=by rw [List.getD_eq_getElem?_getD,hq]; rfl
   rw [hgd]
   cases b with
   | arr e l =>
    simp only
    cases hd:decide (k=l.length) && decide (i < l.length) with
    | false=>exact .any _
    | true =>
     simp only [Bool.and_eq_true,decide_eq_true_eq] at hd
     obtain ⟨hd1,hd⟩:=hd
     simp only [LfC,hq] at hl
     obtain ⟨_,g,tot,h1,rfl⟩:=hl.2 hd1
     simp only [cond_true]
     rcases m.own id _ hq with ⟨_,hn⟩ | ⟨g',tot',cur,t,h3,h4,h5,h6,h7,h8,h9,h10,h11⟩
     ·rw [hn] at h1; cases h1
     ·rw [h3] at h1
      simp only [Option.some.injEq,Prod.mk.injEq] at h1
      obtain ⟨rfl,rfl⟩:=h1
      have hfl:=flat_length h9
      have hr:RL (allOf w) Lf0 true (cur.toList.take (l.length * e)) (flat (l.map (borC n s))):=by
       rw [bor_flat]
       exact bor_list (fun r=>bor_ok m n r) h11
      have:=RV.pin (h:=allOf w) (Lf:=Lf0) (fl:=true) g' 0 e (l.map (borC n s)) _ i off hr (fun x hx=>by
       obtain ⟨y,hy,rfl⟩:=List.mem_map.1 hx
       rw [bor_cells,List.length_map]
       exact h9 y hy) (fun k v hk=>by
       rw [List.getElem?_take] at hk
       split at hk
       ·have h12:=h10 v (List.mem_of_getElem? hk)
        unfold allOf
        rw [h4.cell,← Array.getElem?_toList,Nat.zero_add,hk]
        simp [h12]
       ·simp at hk) (by rw [List.length_map]; exact hd)
      rwa [Nat.zero_add] at this
   | _=>exact .any _
 | _=>exact bor_val m n r
theorem borP_list (m:Mine h ρ s w) (n:Nat):∀ {l:List AV} {vs:List Value},RL h (Lf ρ s) false vs l→RL (allOf w) Lf0 true vs (l.map (borP n s))
 | [],_,r=>by cases r; exact .nil
 | a :: l,_,r=>by cases r with | cons r1 r2=>exact .cons (borP_ok m n r1) (borP_list m n r2)
theorem borF_ok (m:Mine h ρ s w) (n:Nat) {v:Value} {a:AV} (r:RV h (Lf ρ s) false v a):RV (allOf w) Lf0 true v (borF n s a):=by
 cases a with
 | fn f l =>
  obtain ⟨vs,rfl,rl⟩:=inv_fn r
  exact .fn f vs _ (borP_list m n rl)
 | _=>exact borP_ok m n r
theorem borF_args (m:Mine h ρ s w) (n:Nat):∀ {l:List AV} {vs:List Value},RL h (Lf ρ s) false vs l→RL (allOf w) Lf0 true vs (l.map (borF n s))
 | [],_,r=>by cases r; exact .nil
 | a :: l,_,r=>by cases r with | cons r1 r2=>exact .cons (borF_ok m n r1) (borF_args m n r2)
end
theorem Ct.borrowF {P:Program} {f:FuncId} {args:List AV} {post:AV→Prop} (n:Nat) (s:List Blk) (hc:Pc P f (args.map (borF n s)) post) (hp:∀ r,post r→flatV r=true):Ct P f args s (fun r s'=>post r∧s'=s):=by
 refine ⟨hc.1,fun h ρ w vs m r=>?_⟩
 refine (hc.2 (allOf w) w vs allOf_mem (borF_args m n r)).mono ?_
 rintro en w' ⟨v,r,h',rfl,hpo,hm',_,_,hs,rv⟩
 refine ⟨v,r,s,h,ρ,rfl,⟨hpo,rfl⟩,m.same hs,Later.same hs,?_⟩
 have:=hp r hpo
 cases rv with
 | int k n=>exact .int k n
 | bool b=>exact .bool b
 | str s=>exact .str s
 | _=>cases this
theorem CtH.borrowF {P:Program} {g:Std} {f:FuncId} {args:List AV} {post:AV→Prop} (n:Nat) (s:List Blk) (hc:PcH P g f (args.map (borF n s)) post) (hp:∀ r,post r→flatV r=true):CtH P g f args s (fun r s'=>post r∧s'=s):=by
 refine ⟨hc.1,fun h ρ w vs hg m r=>?_⟩
 refine (hc.2 (allOf w) w vs (fun k o e=>(hg k o e).1) allOf_mem (borF_args m n r)).mono ?_
 rintro en w' ⟨v,r,h',rfl,hpo,hm',_,_,hs,rv⟩
 refine ⟨v,r,s,h,ρ,rfl,⟨hpo,rfl⟩,m.same hs,Later.same hs,?_⟩
 have:=hp r hpo
 cases rv with
 | int k n=>exact .int k n
 | bool b=>exact .bool b
 | str s=>exact .str s
 | _=>cases this
end Go.Av
set_option maxRecDepth 100000
namespace Go.Proofs.YtnfkjpihaficbaaGreatDoor
open Go Go.Av Go.RowKit
structure Rl where
 name:List UInt8
 rate:Int
 start:Int
 long:Int
 drift:Int
structure Wn where
 frm:Int
 to':Int
structure Spt where
 scene:Int
 para:Int
 at':Int
theorem scA_get (l:List Sc) (i:Nat) (h:i < l.length):List.getD (List.map scA l) i .any=.agg [.str l[i].no,.int .i64 l[i].place,.str l[i].set,.int .i64 l[i].time,.fz 2 (l[i].paras.map paA)]:=by simp [List.getD,h,scA]
theorem paA_get (l:List Pa) (i:Nat) (h:i < l.length):List.getD (List.map paA l) i .any=.agg [.int .i64 l[i].kind,.str l[i].text]:=by simp [List.getD,h,paA]
theorem nr1_caps {caps:List AV} (hc:caps.all frozen0=true):caps.all nr1=true:=by
 rw [List.all_eq_true] at hc ⊢
 intro x hx
 have:=hc x hx
 cases x <;> first | exact frozen_of0 this | (simp [frozen0] at this)
theorem nr1_cons {a:AV} {caps:List AV} (ha:nr1 a=true) (hc:caps.all frozen0=true):(a :: caps).all nr1=true:=by
 simp only [List.all_cons,ha,nr1_caps hc,Bool.and_self]
def idxP {α:Type} (p:α→Bool) (l:List α):Int:=match l.findIdx? p with
 | some i=>i
 | none=>-1
theorem idxP_none {α:Type} {p:α→Bool} {l:List α} (h:∀ j,(hj:j < l.length)→p l[j]=false):idxP p l=-1:=by
 have:l.findIdx? p=none:=by
  rw [List.findIdx?_eq_none_iff]
  intro x hx
  obtain ⟨j,hj,rfl⟩:=List.getElem_of_mem hx
  exact h j hj
 simp [idxP,this]
theorem idxP_some {α:Type} {p:α→Bool} {l:List α} {i:Nat} (hi:i < l.length) (hp:p l[i]=true) (h:∀ j,(hj:j < i)→p (l[j]'(by omega))=false):idxP p l=i:=by
 have:l.findIdx? p=some i:=by
  rw [List.findIdx?_eq_some_iff_getElem]
  exact ⟨hi,hp,fun j hj=>by simpa using h j hj⟩
 simp [idxP,this]
theorem idxP_any {α:Type} {p:α→Bool} {l:List α}:decide (idxP p l ≥ 0)=l.any p:=by
 unfold idxP
 cases hq:l.findIdx? p with
 | none =>
  rw [List.findIdx?_eq_none_iff] at hq
  have:l.any p=false:=by rw [List.any_eq_false]; intro x hx; simp [hq x hx]
  simp [this]
 | some i =>
  rw [List.findIdx?_eq_some_iff_getElem] at hq
  obtain ⟨hi,hp,_⟩:=hq
  have:l.any p=true:=List.any_eq_true.2 ⟨_,List.getElem_mem hi,hp⟩
  simp [this]
theorem idxSc_pc (f:FuncId) (caps:List AV) (hc:caps.all frozen0=true) (p:Sc→Bool) (l:List Sc) (hl:l.length < 100000000) (hf:∀ x ∈ l,Pc Tryz.prog f (scA x :: caps) (· = .bool (p x))) :
  Pc Tryz.prog 167 [.fz 5 (l.map scA),.fn (.func f) caps] (· = .int .i64 (idxP p l)):=by
 refine pc_intro (ct_intro Tryz.func167 rfl Tryz.ntmps167 hB167 (by simp) fun h ρ w=>goB (N:=19) Tryz.ntmps167 300 ?_)
 simp only [go_sem]
 refine aloop (ι:=Nat) (fun i=>l.length - i) (fun i=>[(8,.int .i64 i),(7,.int .i64 l.length),(1,.fn (.func f) caps),(0,.fz 5 (l.map scA))]) (fun _=>[]) (fun i=>i ≤ l.length∧∀ j,(hj:j < l.length)→j < i→p l[j]=false) 0 ⟨by simp,fun j _ h=>absurd h (by omega)⟩ ?_ ?_
 ·refine Shift.weak ?_
  simp only [wk,go_sem,List.length_map]
 ·rintro i ⟨g1,g2⟩ J hJ
  by_cases gi:i < l.length
  ·have di:decide ((i:Int) < (l.length:Int))=true:=by simp; omega
   have hfx:=hf _ (List.getElem_mem gi)
   simp only [scA] at hfx
   refine goB (N:=19) Tryz.ntmps167 300 ?_
   simp only [go_sem,di,scA_get l i gi,List.length_map]
   repeat refine And.intro (by first | omega | rfl | (simp; omega)) ?_
   cases hp:p l[i] with
   | true =>
    rw [hp] at hfx
    refine pcall1 hfx (nr1_cons rfl hc) (N:=19) Tryz.ntmps167 rfl (goB (N:=19) Tryz.ntmps167 300 ?_)
    simp only [go_sem]
    exact aret [4] rfl ⟨congrArg _ (idxP_some gi hp fun j hj=>g2 j (by omega) hj).symm,rfl⟩
   | false =>
    rw [hp] at hfx
    refine pcall1 hfx (nr1_cons rfl hc) (N:=19) Tryz.ntmps167 rfl (goB (N:=19) Tryz.ntmps167 300 ?_)
    simp only [go_sem]
    repeat refine And.intro (by first | omega | rfl) ?_
    rw [show (i:Int)+1=((i+1:Nat):Int) by omega]
    refine ainv (hJ (i+1) ⟨by omega,fun j hj h=>?_⟩ (by omega)) (Shift.weak ?_)
    ·rcases Nat.lt_or_ge j i with h2 | h2
     ·exact g2 j hj h2
     ·have:j=i:=by omega
      subst this; exact hp
    ·simp only [wk,go_sem]
  ·have di:decide ((i:Int) < (l.length:Int))=false:=by simp; omega
   refine goB (N:=19) Tryz.ntmps167 300 ?_
   simp only [go_sem,di]
   exact aret [4] rfl ⟨congrArg _ (idxP_none fun j hj=>g2 j hj (by omega)).symm,rfl⟩
theorem anySc_pc (f:FuncId) (caps:List AV) (hc:caps.all frozen0=true) (p:Sc→Bool) (l:List Sc) (hl:l.length < 100000000) (hf:∀ x ∈ l,Pc Tryz.prog f (scA x :: caps) (· = .bool (p x))) :
  Pc Tryz.prog 165 [.fz 5 (l.map scA),.fn (.func f) caps] (· = .bool (l.any p)):=by
 refine pc_intro (ct_intro Tryz.func165 rfl Tryz.ntmps165 hB165 (by simp) fun h ρ w=>goB (N:=9) Tryz.ntmps165 300 ?_)
 simp only [go_sem]
 refine pcall1 (idxSc_pc f caps hc p l hl hf) (by simp only [List.all_cons,List.all_nil,nr1,Av.frozen,hc,Bool.and_self]) (N:=9) Tryz.ntmps165 rfl (goB (N:=9) Tryz.ntmps165 300 ?_)
 simp only [go_sem]
 refine aret [4] rfl ⟨?_,rfl⟩
 simp only [resV,Av.get,Av.put,cond_true,beq_self_eq_true]
 rw [← idxP_any]
set_option maxRecDepth 100000
set_option linter.unusedSimpArgs false
set_option linter.unusedVariables false
theorem below_pc (x n:Int) (h1:1 ≤ n) (h2:n ≤ 9223372036854775807) :
  Pc Tryz.prog 68 [.int .i64 x,.int .i64 n] (· = .int .i64 (x % n)):=by
 refine pc_intro (ct_intro Tryz.func68 rfl Tryz.ntmps68 hB68 (by simp) fun h ρ w=>goW (N:=16) Tryz.ntmps68 200 ?_)
 have hm:x.tmod n=if 0 ≤ x∨n ∣ x then x % n else x % n - n.natAbs:=by
  rw [Int.tmod_eq_emod]; split <;> simp
 have hlt:=Int.emod_lt_of_pos x (show 0 < n by omega)
 have hge:=Int.emod_nonneg x (show n ≠ 0 by omega)
 have hna:(n.natAbs:Int)=n:=by omega
 rw [hna] at hm
 simp only [go_sem,xint]
 refine ⟨fun _=>by omega,fun _=>⟨by omega,fun h3=>?_,fun h3=>?_⟩⟩
 ·refine aret [4] rfl ⟨?_,rfl⟩
  show AV.int .i64 _=_
  rw [hm] at h3 ⊢
  split at h3
  ·omega
  ·rw [if_neg (by assumption),show x % n - n+n=x % n by omega]
   exact congrArg _ (IntWalk.i64_in _ ⟨by omega,by omega⟩)
 ·refine aret [4] rfl ⟨?_,rfl⟩
  show AV.int .i64 _=_
  rw [hm] at h3 ⊢
  split at h3
  ·rw [if_pos (by assumption)]
  ·omega
def str (L:List Int) (at':Int):AV:=.agg [.fz 1 (L.map (.int .i64)),.int .i64 at']
def noDbl:List UInt8→Bool
 | a :: b :: r=>!(a == 32 && b == 32) && noDbl (b :: r)
 | _=>true
structure TextOk (p:UInt8→Bool) (t:List UInt8):Prop where
 ne:t ≠ []
 all:t.all p=true
 dbl:noDbl t=true
 hd:t.head? ≠ some 32
 lst:t.getLast? ≠ some 32
theorem index_dbl:∀ t:List UInt8,noDbl t=true→Lib.index t [32,32]=-1
 | [],_=>rfl
 | [a],_=>by
  have h:([32,32]:List UInt8).isPrefixOf [a]=false:=by simp [List.isPrefixOf]
  simp only [Lib.index,h,if_false,Bool.false_eq_true]
  rfl
 | a :: b :: r,h=>by
  simp only [noDbl,Bool.and_eq_true,Bool.not_eq_true'] at h
  have h1:([32,32]:List UInt8).isPrefixOf (a :: b :: r)=false:=by
   cases hq:([32,32]:List UInt8).isPrefixOf (a :: b :: r) with
   | false=>rfl
   | true =>
    simp [List.isPrefixOf] at hq
    obtain ⟨rfl,rfl⟩:=hq
    simp at h
  rw [Lib.index]
  simp only [h1,Bool.false_eq_true,if_false]
  rw [index_dbl (b :: r) h.2]
  rfl
theorem pre_blank {t:List UInt8} (h:t.head? ≠ some 32):Lib.hasPrefix t [32]=false:=by
 cases t with
 | nil=>rfl
 | cons a r =>
  simp only [Lib.hasPrefix,List.isPrefixOf,Bool.and_true]
  simp at h
  simpa using fun e=>h e.symm
theorem suf_blank {t:List UInt8} (h:t.getLast? ≠ some 32):Lib.hasSuffix t [32]=false:=by
 unfold Lib.hasSuffix
 cases hq:([32]:List UInt8).isSuffixOf t with
 | false=>rfl
 | true =>
  rw [List.isSuffixOf_iff_suffix] at hq
  obtain ⟨r,rfl⟩:=hq
  simp at h
theorem plain_of {p:UInt8→Bool} {t:List UInt8} (hp:∀ c,p c=true→okB c=true) (h:TextOk p t):plainL t=true:=by
 have h1:t.all okB=true:=by
  have:=h.all
  rw [List.all_eq_true] at this ⊢
  exact fun c hc=>hp c (this c hc)
 simp [plainL,h1,pre_blank h.hd,suf_blank h.lst,Lib.contains,index_dbl t h.dbl]
theorem noDbl_append:∀ {a b:List UInt8},noDbl a=true→noDbl b=true→a.getLast? ≠ some 32∨b.head? ≠ some 32→noDbl (a++b)=true
 | [],b,_,h,_=>h
 | [x],[],_,_,_=>rfl
 | [x],y :: b,_,h,e=>by
  simp only [List.cons_append,List.nil_append,noDbl,h,Bool.and_true,Bool.not_eq_true',Bool.and_eq_false_iff]
  rcases e with e | e
  ·left; simpa using e
  ·right; simpa using e
 | x :: y :: a,b,h,h',e=>by
  simp only [noDbl,Bool.and_eq_true] at h
  have ih:=noDbl_append (a:=y :: a) h.2 h' (by simpa using e)
  simp only [List.cons_append,noDbl,Bool.and_eq_true] at ih ⊢
  exact ⟨h.1,ih⟩
theorem TextOk.join {p:UInt8→Bool} {a b:List UInt8} (hb:p 32=true) (x:TextOk p a) (y:TextOk p b):TextOk p (a++32 :: b):=by
 refine ⟨by simp,?_,?_,?_,?_⟩
 ·simp only [List.all_append,List.all_cons,x.all,y.all,hb,Bool.and_self]
 ·have h:noDbl (32 :: b)=true:=by
   have:=noDbl_append (a:=[32]) (b:=b) rfl y.dbl (.inr y.hd)
   simpa using this
  exact noDbl_append x.dbl h (.inl x.lst)
 ·have:=x.ne
  cases a with
  | nil=>exact (this rfl).elim
  | cons c a=>simpa using x.hd
 ·rw [List.getLast?_append]
  have:=y.lst
  cases b with
  | nil=>exact (y.ne rfl).elim
  | cons c b =>
   simp only [List.getLast?_cons_cons]
   cases hq:(c :: b).getLast? with
   | none=>simp at hq
   | some z=>rw [hq] at this; simpa using this
theorem TextOk.pre {p q:UInt8→Bool} {a b:List UInt8} (hpq:∀ c,q c=true→p c=true) (ha:a.all p=true) (h1:noDbl a=true) (h2:a.head? ≠ some 32) (h0:a ≠ []) (y:TextOk q b):TextOk p (a++b):=by
 refine ⟨by simp [h0],?_,noDbl_append h1 y.dbl (.inr y.hd),?_,?_⟩
 ·have:b.all p=true:=by
   have:=y.all
   rw [List.all_eq_true] at this ⊢
   exact fun c hc=>hpq c (this c hc)
  simp only [List.all_append,ha,this,Bool.and_self]
 ·cases a with
  | nil=>exact (h0 rfl).elim
  | cons c a=>simpa using h2
 ·rw [List.getLast?_append]
  have:=y.lst
  cases hq:b.getLast? with
  | none=>exact (y.ne (List.getLast?_eq_none_iff.1 hq)).elim
  | some z=>rw [hq] at this; simpa using this
theorem TextOk.weak {p q:UInt8→Bool} {b:List UInt8} (hpq:∀ c,q c=true→p c=true) (y:TextOk q b):TextOk p b :=
 ⟨y.ne,by have:=y.all; rw [List.all_eq_true] at this ⊢; exact fun c hc=>hpq c (this c hc),y.dbl,y.hd,y.lst⟩
def textB (p:UInt8→Bool) (t:List UInt8):Bool:=t != [] && (t.all p && (noDbl t && (t.head? != some 32 && t.getLast? != some 32)))
theorem textB_ok {p:UInt8→Bool} {t:List UInt8} (h:textB p t=true):TextOk p t:=by
 simp only [textB,Bool.and_eq_true,bne_iff_ne,ne_eq] at h
 exact ⟨h.1,h.2.1,h.2.2.1,h.2.2.2.1,h.2.2.2.2⟩
def NameL:List (List UInt8):=[[65,78,78],[66,79],[68,82,46,32,88],[65,78,78,45,77,65,82,73,69]]
def SetL:List (List UInt8):=[[72,65,76,76],[77,73,76,76],[66,65,82,78,32,47,32,76,79,70,84]]
theorem names_pc:Pc Tryz.prog 73 [] (· = .fz 1 (NameL.map .str)):=by
 refine pc_intro (ct_intro Tryz.func73 rfl Tryz.ntmps73 hB73 (by simp) fun h ρ w=>goF (N:=2) Tryz.ntmps73 300 ?_)
 simp only [go_sem]
 exact aret [0] rfl ⟨rfl,rfl⟩
theorem sets_pc:Pc Tryz.prog 141 [] (· = .fz 1 (SetL.map .str)):=by
 refine pc_intro (ct_intro Tryz.func141 rfl Tryz.ntmps141 hB141 (by simp) fun h ρ w=>goF (N:=2) Tryz.ntmps141 300 ?_)
 simp only [go_sem]
 exact aret [0] rfl ⟨rfl,rfl⟩
def wordC (c:UInt8):Bool:=okB c && (c != 40 && (c != 41 && c != 86))
def textC (c:UInt8):Bool:=okB c && c != 86
theorem wordC_text (c:UInt8) (h:wordC c=true):textC c=true:=by
 simp only [wordC,textC,Bool.and_eq_true] at h ⊢
 exact ⟨h.1,h.2.2.2⟩
theorem textC_ok (c:UInt8) (h:textC c=true):okB c=true:=by
 simp only [textC,Bool.and_eq_true] at h
 exact h.1
def WordL:List (List UInt8):=[[114,97,105,110],[84,119,111],[103,117,110,115],[65,78,78],[66,111],[97],[116,104,101],[114,101,100],[99,97,114,46],[115,111,108,100,105,101,114,115],[49,50],
 [100,111,110,39,116],[45,45],[97,98,99,100,101,102,103,104,105,106,107,108,109,110,111,112,113,114,115,116,117,118,119,120,121,122,97,98,99,100,101,102,103,104,105,106,107,108,109,110,111,112,113,114,115,116,117,118,119,120,121,122],[99,97,114]]
theorem word_ok:(WordL.all fun x=>textB wordC x && decide (x.length ≤ 52))=true:=by decide +kernel
theorem word_of {x:List UInt8} (h:x ∈ WordL):TextOk wordC x∧x.length ≤ 52:=by
 have:=List.all_eq_true.1 word_ok x h
 simp only [Bool.and_eq_true,decide_eq_true_eq] at this
 exact ⟨textB_ok this.1,this.2⟩
end Go.Proofs.YtnfkjpihaficbaaGreatDoor
