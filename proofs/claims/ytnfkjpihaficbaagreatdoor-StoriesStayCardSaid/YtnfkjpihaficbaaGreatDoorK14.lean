/- Statements whose order is open and which put into several maps of one's own. -/
import Derived.Test.YtnfkjpihaficbaaGreatDoorK13
set_option linter.unusedSimpArgs false
set_option linter.unusedVariables false
set_option linter.unusedSectionVars false
namespace Go.Av
open Go Go.RowKit
variable [Tr]
section
variable {cx:Cx}{ops:Array Oper}{K:Env->List Blk->Prop}{ids:List (Nat×Nat)}
end
section
variable {c:Cx}{k:List It}{e:Env}{s:List Blk}
mutual
def dxg(c:Cx)(all:List Oper)(ck:Nat->Env->List Blk->Oper->Prop)(k:List It):Nat->List Oper->List AV->Env->List Blk->Prop
 | _,[],_,e,s=>AWp c k e s
 | 0,_::_,_,_,_=>False
 | n+1,o::r,cs,e,s=>ck (rix all (o::r)) e s o/\dxgc c all ck k n (dgrd c all s o r cs e o.guard)
def dxgc(c:Cx)(all:List Oper)(ck:Nat->Env->List Blk->Oper->Prop)(k:List It):Nat->Dn->Prop
 | n,.go r cs e s=>dxg c all ck k n r cs e s
 | n,.two b r cs e r' cs' e' s=>dbrg c all ck k n b r cs e r' cs' e' s
 | n,.side p r cs e s=>p/\dxg c all ck k n r cs e s
 | _,.fail=>False
def dbrg(c:Cx)(all:List Oper)(ck:Nat->Env->List Blk->Oper->Prop)(k:List It):Nat->Bool->List Oper->List AV->Env->List Oper->List AV->Env->List Blk->Prop
 | 0,_,_,_,_,_,_,_,_=>False
 | n+1,b,r,cs,e,r',cs',e',s=>(b=true->dxg c all ck k n r cs e s)/\(b=false->dxg c all ck k n r' cs' e' s)
end
theorem A5Z{all:List Oper}{ck:Nat->Env->List Blk->Oper->Prop}{n:Nat} {r cs e r' cs' e' s}:dbrg c all ck k (n+1) true r cs e r' cs' e' s=dxg c all ck k n r cs e s:=by rw[dbrg]; simp
theorem A2G{all:List Oper}{ck:Nat->Env->List Blk->Oper->Prop}{n:Nat} {r cs e r' cs' e' s}:dbrg c all ck k (n+1) false r cs e r' cs' e' s=dxg c all ck k n r' cs' e' s:=by rw[dbrg]; simp
theorem BfE{all:List Oper}{ck:Nat->Env->List Blk->Oper->Prop}{n:Nat}{o:Oper}{r:List Oper}{cs:List AV}(hg:o.guard=none)(h:dxg c all ck k n (o::r) cs e s) :
  ck (rix all (o::r)) e s o/\∃ cv v n' cs' s',DoesOp c s o cv e v s'/\dxg c all ck k n' r cs' (put e o.dst v) s':=by
 cases n with
 | zero=>rw[dxg]at h; exact h.elim
 | succ n =>
  rw[dxg]at h;refine⟨h.1,?_⟩
  replace h:=h.2
  rw[hg]at h;unfold dgrd at h;unfold DoesOp
  revert h
  cases xop false true c.P e s o.op with
  | ok u=>intro h; simp only[dres,dxgc]at h; exact⟨.any,u,n,cs,s,⟨rfl,rfl⟩,h⟩
  | side p u=>intro h; simp only[dres,dxgc]at h; exact⟨.any,u,n,cs,s,⟨h.1,rfl,rfl⟩,h.2⟩
  | sto p u s'=>intro h; simp only[dres,dxgc]at h; exact⟨.any,u,n,cs,s',⟨h.1.1,h.1.2,rfl,rfl⟩,h.2⟩
  | pick b x y =>
   intro h; simp only[dres,dxgc]at h
   cases n with
   | zero=>rw[dbrg]at h; exact h.elim
   | succ n =>
   rw[dbrg]at h;refine⟨.any,_,n,cs,s,⟨rfl,rfl⟩,?_⟩
   cases b with
   | true=>exact h.1 rfl
   | false=>exact h.2 rfl
  | call f args =>
   intro h; simp only[dres]at h
   cases cs with
   | nil=>simp only[dcall,dxgc]at h
   | cons cv cs=>simp only[dcall,dxgc]at h; exact⟨cv,cv,n,cs,s,⟨h.1.1,h.1.2,rfl,rfl⟩,h.2⟩
  | anyb p=>intro h; simp only[dres,dxgc]at h
  | stuck=>intro h; simp only[dres,dxgc]at h
theorem BcG{all:List Oper}{ck:Nat->Env->List Blk->Oper->Prop}{n:Nat}{o:Oper}{r:List Oper}{cs:List AV}(h:dxg c all ck k n (o::r) cs e s) :
  ck (rix all (o::r)) e s o/\∃ cv v n' cs' s',Does c all.toArray s o cv e v s'/\dxg c all ck k n' r cs' (put e o.dst v) s':=by
 cases hg:o.guard with
 | none =>
  obtain⟨h0,cv,v,n',cs',s',h1,h2⟩:=BfE hg h;exact⟨h0,cv,v,n',cs',s',by unfold Does; rw[hg]; exact h1,h2⟩
 | some jw =>
  obtain⟨j,want⟩:=jw
  cases n with
  | zero=>rw[dxg]at h; exact h.elim
  | succ n =>
   rw[dxg]at h;refine⟨h.1,?_⟩
   replace h:=h.2
   rw[hg]at h;unfold dgrd dyld at h
   cases hy:yldD want e all[j]? with
   | none=>simp only[hy,dxgc]at h
   | some b =>
    simp only[hy]at h;have key:(b=want->∃ n',dxg c all ck k n' ({ o with guard:=none }::r) cs e s)/\(b≠want->∃ n',dxg c all ck k n' r cs (put e o.dst (.raw undef)) s):=by
     cases n with
     | zero=>cases want <;> simp only[cond_true,cond_false,dxgc,dbrg]at h
     | succ n =>
      cases want <;> simp only[cond_true,cond_false,dxgc,dbrg]at h <;> cases b <;>
       first
       | exact⟨fun _=>⟨n,h.1 rfl⟩,fun hh=>(hh rfl).elim⟩
       | exact⟨fun _=>⟨n,h.2 rfl⟩,fun hh=>(hh rfl).elim⟩
       | exact⟨fun hh=>(by cases hh),fun _=>⟨n,h.1 rfl⟩⟩
       | exact⟨fun hh=>(by cases hh),fun _=>⟨n,h.2 rfl⟩⟩
    have hy':yldD want e all.toArray[j]? = some b:=by simpa using hy
    by_cases hb:b=want
    .obtain ⟨n1,h1⟩:=key.1 hb
     obtain⟨_,cv,v,n',cs',s',h1,h2⟩:=BfE (o:={ o with guard:=none }) rfl h1;refine⟨cv,v,n',cs',s',?_,h2⟩;unfold Does;rw[hg];simp only[hy'];exact .inl ⟨hb,h1⟩
    .obtain ⟨n1,h1⟩:=key.2 hb
     refine⟨.any,.raw undef,n1,cs,s,?_,h1⟩;unfold Does;rw[hg];simp only[hy'];exact .inr ⟨hb,trivial,trivial⟩
end
