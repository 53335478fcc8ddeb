/- A function that only reads, called with a closure over memory of one's own. -/
import Derived.Test.YtlldmgboedknfaaGreatDoorB37
set_option linter.unusedSimpArgs false
set_option linter.unusedVariables false
set_option linter.unusedSectionVars false
namespace Go.Av
open Go Go.RowKit
variable [Tr]
def borP(n:Nat)(s:List Blk):AV->AV
 | .ptr id m i off=>match s.getD id .dead with
  | .arr e l=>bif decide (m=l.length)&&decide (i<l.length) then .pin e (l.map (borC n s)) i off else .any
  | _=>.any
 | x=>borC n s x
def borF(n:Nat)(s:List Blk):AV->AV
 | .fn f r=>.fn f (r.map (borP n s))
 | x=>borP n s x
section
variable {h:Mem}{ρ:Own}{s:List Blk}{w:World}
theorem BaE(m:Mine h ρ s w)(n:Nat){v:Value}{a:AV}(r:RV h (Lf ρ s) false v a):RV (AdM w) Lf0 true v (borP n s a):=by
 cases a with
 | ptr id k i off =>
  have hl:=(AcM r).2;simp only[borP]
  cases hq:s[id]? with
  | none =>
   have hgd:s.getD id .dead=.dead:=by rw[List.getD_eq_getElem?_getD,hq]; rfl
   rw[hgd];exact .any _
  | some b =>
   have hgd:s.getD id .dead=b:=by rw[List.getD_eq_getElem?_getD,hq]; rfl
   rw[hgd]
   cases b with
   | arr e l =>
    simp only
    cases hd:decide (k=l.length)&&decide (i<l.length)with
    | false=>exact .any _
    | true =>
     simp only[Bool.and_eq_true,decide_eq_true_eq]at hd;obtain⟨hd1,hd⟩:=hd;simp only[LfC,hq]at hl;obtain⟨_,g,tot,h1,rfl⟩:=hl.2 hd1;simp only[cond_true]
     rcases m.own id _ hq with⟨_,hn⟩|⟨g',tot',cur,t,h3,h4,h5,h6,h7,h8,h9,h10,h11⟩
     .rw [hn]at h1; cases h1
     .rw [h3]at h1
      simp only[Option.some.injEq,Prod.mk.injEq]at h1;obtain⟨rfl,rfl⟩:=h1;have hfl:=AaK h9;have hr:RL (AdM w) Lf0 true (cur.toList.take (l.length*e)) (flat (l.map (borC n s))):=by
       rw[bor_flat];exact AlG (fun r=>A2G m n r) h11
      have:=RV.pin (h:=AdM w) (Lf:=Lf0) (fl:=true) g' 0 e (l.map (borC n s)) _ i off hr (fun x hx=>by
       obtain⟨y,hy,rfl⟩:=List.mem_map.1 hx;rw[bor_cells,List.length_map];exact h9 y hy) (fun k v hk=>by
       rw[List.getElem?_take]at hk
       split at hk
       .have h12:=h10 v (List.mem_of_getElem? hk)
        unfold AdM;rw[h4.cell,<- Array.getElem?_toList,Nat.zero_add,hk]
        simp[h12]
       .simp at hk) (by rw[List.length_map]; exact hd)
      rwa [Nat.zero_add]at this
   | _=>exact .any _
 | _=>exact BjP m n r
theorem AwB(m:Mine h ρ s w)(n:Nat):∀ {l:List AV}{vs:List Value},RL h (Lf ρ s) false vs l->RL (AdM w) Lf0 true vs (l.map (borP n s))
 | [],_,r=>by cases r; exact .nil
 | a::l,_,r=>by cases r with|cons r1 r2=>exact .cons (BaE m n r1) (AwB m n r2)
theorem BjU(m:Mine h ρ s w)(n:Nat){v:Value}{a:AV}(r:RV h (Lf ρ s) false v a):RV (AdM w) Lf0 true v (borF n s a):=by
 cases a with
 | fn f l =>
  obtain⟨vs,rfl,rl⟩:=A0A r;exact .fn f vs _ (AwB m n rl)
 | _=>exact BaE m n r
theorem AoF(m:Mine h ρ s w)(n:Nat):∀ {l:List AV}{vs:List Value},RL h (Lf ρ s) false vs l->RL (AdM w) Lf0 true vs (l.map (borF n s))
 | [],_,r=>by cases r; exact .nil
 | a::l,_,r=>by cases r with|cons r1 r2=>exact .cons (BjU m n r1) (AoF m n r2)
end
theorem Ct.borrowF{P:Program}{f:FuncId}{args:List AV}{post:AV->Prop}(n:Nat)(s:List Blk)(hc:Pc P f (args.map (borF n s)) post)(hp:∀ r,post r->BmB r=true):Ct P f args s (fun r s'=>post r/\s'=s):=by
 refine⟨hc.1,fun h ρ w vs m r=>?_⟩;refine(hc.2 (AdM w) w vs AvY (AoF m n r)).mono ?_;rintro en w' ⟨v,r,h',rfl,hpo,hm',_,_,hs,rv⟩;refine⟨v,r,s,h,ρ,rfl,⟨hpo,rfl⟩,m.same hs,Later.same hs,?_⟩;have:=hp r hpo
 cases rv with
 | int k n=>exact .int k n
 | bool b=>exact .bool b
 | str s=>exact .str s
 | _=>cases this
theorem CtH.borrowF{P:Program}{g:Std}{f:FuncId}{args:List AV}{post:AV->Prop}(n:Nat)(s:List Blk)(hc:PcH P g f (args.map (borF n s)) post)(hp:∀ r,post r->BmB r=true):CtH P g f args s (fun r s'=>post r/\s'=s):=by
 refine⟨hc.1,fun h ρ w vs hg m r=>?_⟩;refine(hc.2 (AdM w) w vs (fun k o e=>(hg k o e).1) AvY (AoF m n r)).mono ?_;rintro en w' ⟨v,r,h',rfl,hpo,hm',_,_,hs,rv⟩;refine⟨v,r,s,h,ρ,rfl,⟨hpo,rfl⟩,m.same hs,Later.same hs,?_⟩;have:=hp r hpo
 cases rv with
 | int k n=>exact .int k n
 | bool b=>exact .bool b
 | str s=>exact .str s
 | _=>cases this
