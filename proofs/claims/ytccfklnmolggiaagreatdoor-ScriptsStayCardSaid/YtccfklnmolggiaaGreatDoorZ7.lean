/- Maps of one's own: made, written, read. -/
import Derived.Test.YtccfklnmolggiaaGreatDoorZ6
import Derived.WideMake
import Derived.Laws.StructEq
import Derived.Laws.Cover3
import Derived.Maps.RangeRun
set_option linter.all false
namespace Go.Av
open RowKit
variable [Tr]
section
variable {h:Mem}{ρ:Own}{sto:LB}{w:World}{P:Program}
theorem RL.drop1{fl:Bool}{L:Value->AV->Prop}{vs:List Value}{i:Nat}{x:AV}{xs:LY}(r:RL h L fl (vs.drop i) (x::xs)):∃ v,vs[i]? = some v/\RV h L fl v x/\RL h L fl (vs.drop (i+1)) xs:=by
 generalize hd:vs.drop i=ds at r
 cases r with
 | cons r1 r2 =>
  rename_i v ds';have h1:vs[i]? = some v:=by
   have:=congrArg (·[0]?) hd
   grind
  have h2:vs.drop (i+1)=ds':=by
   rw[<- List.drop_drop,hd]; rfl
  grind
theorem AeA{t:TypeId}{cs:Array Value}{i:Nat}{v:Value}{b:Bool}{x y:AV}(hl:AaX (P.underlying t) x y=some b)(hv:cs[i]? = some v):(part t cs i).run P w=.ok v w:=by
 cases hq:P.underlying t with
 | none=>grind[AaX]
 | some d =>
  have hr:isRow (some d)=false:=by
   cases d <;> first|rfl|grind[AaX]
  simp_all[part,AkG]
theorem AhZ{t:TypeId}{d:Nat}{u v:Value}{x y:AV}{b:Bool}{L:Value->AV->Prop}{fl:Bool}(hl:AaX (P.underlying t) x y=some b)(ru:RV h (Lf ρ sto) false u x)(rv:RV h (Lf ρ sto) false v y) :
  (Op.equalIn (d+1) t u v).run P w=.ok b w:=by
 unfold AaX at hl
 split at hl
 .rw [AaS ru,AaS rv]
  grind[AiV]
 .split at hl
  .rw [AaE ru,AaE rv]
   grind[run_equalIn_int]
  grind
 .rename_i p q hd
  rw[AbB ru,AbB rv,run_equalIn_string w d t _ _ hd]
  simp_all
 grind
theorem AeO{vs us:List Value}{d:Nat}:∀ {fs:List Field}{i:Nat}{xs ys:LY}{b:Bool},offsOk i fs=true->RL h (Lf ρ sto) false (vs.drop i) xs->RL h (Lf ρ sto) false (us.drop i) ys->eqFs P fs xs ys=some b ->
  (Op.eqFields (d+1) vs.toArray us.toArray fs).run P w=.ok b w
 | [],i,xs,ys,b,_,_,_,hb=>by
  simp_all[eqFs,Op.eqFields]
 | f::fs,i,[],ys,b,_,_,_,hb=>by grind[eqFs]
 | f::fs,i,_::_,[],b,_,_,_,hb=>by grind[eqFs]
 | f::fs,i,x::xs,y::ys,b,ho,r1,r2,hb=>by
  simp only[offsOk,lac,bne_iff_ne,ne_eq,lbx]at ho;obtain⟨o1,o2,o3⟩:=ho;obtain⟨v,v1,v2,v3⟩:=r1.drop1;obtain⟨u,u1,u2,u3⟩:=r2.drop1;rw[eqFs]at hb
  cases h1:AaX (P.underlying f.type) x y with
  | none=>grind[bothB]
  | some p =>
   cases h2:eqFs P fs xs ys with
   | none=>grind[bothB]
   | some q =>
    rw[h1,h2]at hb;simp only[bothB,lam]at hb;have ih:=AeO (d:=d) o3 v3 u3 h2;unfold Op.eqFields;rw[if_pos o1,o2];rw[Sem.run_bind,AeA h1 (by simpa using v1)];simp only[Result.andThen_ok];rw[Sem.run_bind,AeA h1 (by simpa using u1)];simp only[Result.andThen_ok];rw[Sem.run_bind,AhZ (L:=Lf ρ sto) (fl:=false) h1 v2 u2]
    cases p<;>simp_all
theorem A3T{vs us:List Value}{d:Nat}{xs ys:LY}(r1:RL h (Lf ρ sto) false vs xs)(r2:RL h (Lf ρ sto) false us ys):∀ {fs:List Field}{b:Bool},fs.all (A2U P)=true->eqFN P xs ys fs=some b ->
  (Op.eqFields (d+2) vs.toArray us.toArray fs).run P w=.ok b w
 | [],b,_,hb=>by
  simp_all[eqFN,Op.eqFields]
 | f::fs,b,ho,hb=>by
  rw[laz,lac]at ho;obtain⟨o1,o2⟩:=ho;unfold A2U at o1
  simp at o1
  obtain⟨o1,o3⟩:=o1;rw[eqFN]at hb
  cases h1:eqF1 P xs ys f (P.underlying f.type)with
  | none=>grind[bothB]
  | some p =>
   cases h2:eqFN P xs ys fs with
   | none=>grind[bothB]
   | some q =>
    rw[h1,h2]at hb;simp only[bothB,lam]at hb;have ih:=A3T (d:=d) r1 r2 o2 h2;have key:∃ u v,(part f.type vs.toArray f.offset).run P w=.ok u w/\(part f.type us.toArray f.offset).run P w=.ok v w/\(Op.equalIn (d+2) f.type u v).run P w=.ok p w:=by
     cases hd:P.underlying f.type with
     | none=>grind[eqF1]
     | some D =>
      have hh:has (P.underlying f.type):=by rw[hd]; rfl
      by_cases hs:∃ gs,D=.struct gs
      .obtain ⟨gs,rfl⟩:=hs
       rw[hd]at h1 o3;simp only[eqF1]at h1
       simp at o3
       cases hb:(decide (f.offset+tsize P f.type<=xs.length)&&decide (f.offset+tsize P f.type<=ys.length))with
       | false=>grind
       | true =>
        rw[hb]at h1
        simp at hb
        obtain⟨u,u1,u2⟩:=part_run hh r1 (by rw[hd]; exact hb.1);obtain⟨v,v1,v2⟩:=part_run hh r2 (by rw[hd]; exact hb.2);rw[hd]at u2 v2;simp only[isRow,xpart,lav]at u2 v2;obtain⟨us',rfl,ru⟩:=inv_agg u2;obtain⟨vs',rfl,rv⟩:=inv_agg v2;refine⟨_,_,u1,v1,?_⟩;have hfo:P.fieldsOf f.type=gs:=by grind[Program.fieldsOf]
        rw[run_equalIn_struct w (d+1) f.type _ _ (by grind) o3.1,hfo];exact AeO o3.2 (by simpa using ru) (by grind) h1
      .have hl:eqF1 P xs ys f (some D)=bif decide (f.offset<xs.length)&&decide (f.offset<ys.length) then AaX (some D) (xs.getD f.offset .any) (ys.getD f.offset .any) else none:=by
        cases D with
        | struct gs=>grind
        | _=>rfl
       rw[hd,hl]at h1
       cases hb:(decide (f.offset<xs.length)&&decide (f.offset<ys.length))with
       | false=>grind
       | true =>
        rw[hb]at h1
        simp at h1
        simp at hb
        have hr:isRow (some D)=false:=by
         cases D <;> first|rfl|grind[AaX]
        obtain⟨u,u1,u2⟩:=part_run hh r1 (by rw[hd,hr]; exact hb.1);obtain⟨v,v1,v2⟩:=part_run hh r2 (by rw[hd,hr]; exact hb.2);rw[hd,hr]at u2 v2;simp only[xpart,lba]at u2 v2;exact⟨u,v,u1,v1,AhZ (L:=Lf ρ sto) (fl:=false) (by grind) u2 v2⟩
    obtain⟨u,v,k1,k2,k3⟩:=key;unfold Op.eqFields
    cases p<;>simp_all
theorem ba_beq(s t:LU):((⟨s.toArray⟩:ByteArray)==⟨t.toArray⟩)=(s==t):=by
 show(s.toArray==t.toArray)=(s==t)
 simp
theorem BfS{t:TypeId}{x:Operand}{o:Oper}{e:Env}{a:Act}(ho:o.op=.box t x)(m:Mine h ρ sto w)(he:EnvOk h ρ sto e a) :
  Lm P h ρ sto w ((execOp a.eval o).run P w) (A9R (isRow (P.underlying t)) (ev e x)):=by
 have hx:=AaF he x;have hrun:(execOp a.eval o).run P w=.ok (.value (.pointer (some ⟨w.heap.size,0,none⟩))) (w.alloc (.cells (a.eval x).cells t)):=by
  simp_all[execOp,Instr.box,newVar,newRow]
 rw[hrun];generalize a.eval x=u at *;have key:∀ (y:AV) (vs:List Value) (l:LY),u.cells=vs.toArray->cellsOf y=l->RL h (Lf ρ sto) false vs l->l.all frozen=true->l.all one=true->0<l.length ->
   Okv h ρ sto w (.ok (.value (.pointer (some ⟨w.heap.size,0,none⟩))) (w.alloc (.cells u.cells t))) (.pin l.length [y] 0 0) sto:=by
  intro y vs l hu hy rl hf h1 hl;have hone:∀ v∈vs,v.oneCell'=true:=by
   intro v hv;obtain⟨k,hk,e⟩:=List.getElem_of_mem hv;have hkl:k<l.length:=by have:=rl.length; omega
   obtain⟨v',e1,r1⟩:=rl.get (lad hkl)
   grind[A3L]
  obtain⟨m',l'⟩:=m.freezeNew vs t hone;rw[hu];refine⟨_,_,_,_,.inl rfl,m',l',?_⟩;have:=RV.pin (fl:=false) w.heap.size 0 l.length [y] vs 0 0 (by
   simp only[flat,lbg,hy];exact(AcI rl hf).mono l'.hle (fun _ _ x=>x)) (by grind) (fun k v hk=>by grind[Mem.add]) (by simp)
  grind
 unfold A9R
 split
 .rename_i l h1 h2
  rw[h2]at hx;obtain⟨vs,rfl,rl⟩:=inv_agg hx;intro hp;exact key _ vs l (by simp[Value.cells]) rfl rl hp.2.1 hp.2.2 hp.1
 .cases hv:one (ev e x)with
  | false=>trivial
  | true =>
   cases hf:frozen (ev e x)with
   | false=>trivial
   | true =>
    have hc:=AjH hx (by grind[AaK]);rw[AaK hv]at hc;exact key _ _ _ (by simp) (AaK hv) hc (by grind) (by grind) (by simp)
 .trivial
theorem BfT{b:Bool}{t:TypeId}{x:Operand}{o:Oper}{e:Env}{a:Act}(ho:o.op=.box t x)(m:Mine h ρ sto w)(he:EnvOk h ρ sto e a) :
  Lm P h ρ sto w ((execOp a.eval o).run P w) (BeX b (isRow (P.underlying t)) sto (ev e x)):=by
 cases b with
 | true=>exact BfS ho m he
 | false=>exact BiR ho m he
theorem ApF{P:Program}:∀ {a b:List TypeId}{xs ys:LY}{c:Bool},eqLs P (a++b) xs ys=some c->∃ p q,eqLs P a (xs.take a.length) (ys.take a.length)=some p/\eqLs P b (xs.drop a.length) (ys.drop a.length)=some q/\c=(p&&q)/\a.length<=xs.length/\a.length<=ys.length
 | [],b,xs,ys,c,h=>⟨true,c,by simp[eqLs],by grind,by simp,lbq _,lbq _⟩
 | t::a,b,[],ys,c,h=>by grind[eqLs]
 | t::a,b,_::_,[],c,h=>by grind[eqLs]
 | t::a,b,x::xs,y::ys,c,h=>by
  simp only[las,eqLs]at h
  cases h1:AaX (P.underlying t) x y with
  | none=>rw[h1]at h; simp[bothB]at h
  | some r =>
   cases h2:eqLs P (a++b) xs ys with
   | none=>rw[h1,h2]at h; simp[bothB]at h
   | some s =>
    rw[h1,h2]at h;simp only[bothB,lam]at h;obtain⟨p,q,k1,k2,k3,k4,k5⟩:=ApF h2;refine⟨r&&p,q,?_,by simpa using k2,by rw[<- h,k3,Bool.and_assoc],by simpa using k4,by simpa using k5⟩;simp only[laf,lcb,eqLs,h1,k1,bothB]
theorem AkO{P:Program}{t:TypeId}(h:∀ fs,P.underlying t≠some (.struct fs)):∀ n,leafTs P n t=[t]
 | 0=>rfl
 | n+1=>by
  grind[leafTs]
theorem BdW{d:Nat}:∀ (n:Nat){t:TypeId}{vs us:List Value}{xs ys:LY}{fs:Array Field}{b:Bool},P.underlying t=some (.struct fs)->shapeT P n t=true->RL h (Lf ρ sto) false vs xs->RL h (Lf ρ sto) false us ys->eqLs P (leafTs P n t) xs ys=some b ->
  (Op.equalIn (d+n+1) t (.agg vs.toArray) (.agg us.toArray)).run P w=.ok b w
 | 0,t,vs,us,xs,ys,fs,b,ht,hs,_,_,_=>by grind[shapeT]
 | n+1,t,vs,us,xs,ys,fs,b,ht,hs,r1,r2,hb=>by
  simp only[shapeT,ht,lac,lbr]at hs;obtain⟨hs1,hs2⟩:=hs;simp only[leafTs,ht]at hb;have hfo:P.fieldsOf t=fs:=by grind[Program.fieldsOf]
  rw[show d+(n+1)+1=(d+n+1)+1 by omega,run_equalIn_struct w (d+n+1) t _ _ (by grind) hs1,hfo];have key:∀ (fl:List Field) (i:Nat) (b:Bool),offsG P (shapeT P n) (leafTs P n) i fl=true->eqLs P (fl.flatMap fun f=>leafTs P n f.type) (xs.drop i) (ys.drop i)=some b ->
    (Op.eqFields (d+n+1) vs.toArray us.toArray fl).run P w=.ok b w:=by
   intro fl
   induction fl with
   | nil =>
    intro i b _ hb;have:b=true:=by
     grind[eqLs]
    simp_all[Op.eqFields]
   | cons f fl ih =>
    intro i b ho hb;simp only[offsG,lac,bne_iff_ne,ne_eq,lbx]at ho;obtain⟨o1,o2,o3,⟨o4,o6⟩,o5⟩:=ho
    simp at hb
    obtain⟨p,q,k1,k2,k3,k4,k5⟩:=ApF hb;rw[List.drop_drop]at k2;rw[List.drop_drop]at k2;have ih:=ih (i+(leafTs P n f.type).length) q o5 k2;have key:∃ u v,(part f.type vs.toArray f.offset).run P w=.ok u w/\(part f.type us.toArray f.offset).run P w=.ok v w/\(Op.equalIn (d+n+1) f.type u v).run P w=.ok p w:=by
     rw[o2]
     by_cases hst:∃ gs,P.underlying f.type=some (.struct gs)
     .obtain ⟨gs,hd⟩:=hst
      have hh:has (P.underlying f.type):=by rw[hd]; rfl
      simp at k4 k5
      obtain⟨u,u1,u2⟩:=part_run hh r1 (off:=i) (by grind[xpartOk]);obtain⟨v,v1,v2⟩:=part_run hh r2 (off:=i) (by grind[xpartOk]);rw[hd]at u2 v2;simp only[isRow,xpart,lav]at u2 v2;obtain⟨us',rfl,ru⟩:=inv_agg u2;obtain⟨vs',rfl,rv⟩:=inv_agg v2;rw[o4]at ru rv;exact⟨_,_,u1,v1,by simpa using BdW n hd o3 ru rv k1⟩
     .have hlf:=AkO (fun gs e=>hst ⟨gs,e⟩) n
      rw[hlf]at k1 k4 k5
      simp at k1 k4 k5
      have hx:xs.drop i=xs[i]'(by omega)::xs.drop (i+1):=lbc (by omega);have hy:ys.drop i=ys[i]'(by omega)::ys.drop (i+1):=lbc (by omega);rw[hx,hy]at k1;simp only[lcb,List.take_zero,eqLs]at k1;obtain⟨v,v1,v2,v3⟩:=RL.drop1 (by rw[<- hx]; exact r1.drop i);obtain⟨u,u1,u2,u3⟩:=RL.drop1 (by rw[<- hy]; exact r2.drop i)
      cases hl:AaX (P.underlying f.type) (xs[i]'(by omega)) (ys[i]'(by omega))with
      | none=>grind[bothB]
      | some c =>
       rw[hl]at k1;simp only[bothB,lam,lbw]at k1;subst k1;exact⟨v,u,AeA hl (by grind),AeA hl (by grind),AhZ (L:=Lf ρ sto) (fl:=false) hl v2 u2⟩
    obtain⟨u,v,u1,v1,hq⟩:=key;unfold Op.eqFields
    cases p<;>simp_all
  grind
theorem A0P{t:TypeId}{o:Oper}{a:Act}(ho:o.op=.makeMap t none)(m:Mine h ρ sto w):Lm P h ρ sto w ((execOp a.eval o).run P w) (A3E sto):=by
 intro _;have hr:(execOp a.eval o).run P w=.ok (.value (.map (some w.heap.size))) (w.alloc (.map #[] 0)):=by
  simp_all[execOp,run_makeMap_plain]
 have hm:=m.push (.map #[] 0) (.mp []) (some 0) ⟨w.heap.size,#[],0,by simp[upd],(MapKept.heap_alloc w _).1,rfl,by grind,by simp[EnOk]⟩;exact⟨_,_,_,_,.inl hr,hm.1,hm.2,.leaf ⟨rfl,by grind[LfC,upd]⟩⟩
theorem AjI{d:TypeDesc}{k:AV}{u:Value}{fl:Bool}(hk:AeZ d k=true)(r:RV h (Lf ρ sto) fl u k):MapKept.IsKey d u/\∀ {h':Mem}{Lf':Value->AV->Prop}{f:Bool},RV h' Lf' f u k:=by
 cases k <;> cases d <;> simp[AeZ]at hk
 .subst hk
  rw[AaE r];exact⟨rfl,.int _ _⟩
 .rw [AaS r]
  exact⟨trivial,.bool _⟩
 .rw [AbB r]
  exact⟨trivial,.str _⟩
theorem ApG{d:TypeDesc}{k k':AV}{u u':Value}{fl fl':Bool}{b:Bool}(hk:keyEq d k k'=some b)(hlv:liveK k'=true)(r:RV h (Lf ρ sto) fl u k)(r':RV h (Lf ρ sto) fl' u' k'):Instr.sameNow d u u'=some b/\(b=true->Instr.sameBits 10000 u' u=true):=by
 cases d <;> cases k <;> cases k' <;> (try(simp[liveK]at hlv; done)) <;> simp[keyEq]at hk
 .subst hk
  rw[AaS r,AaS r'];exact⟨rfl,fun hb=>by grind[Instr.sameBits]⟩
 .rename_i kd k1 n1 k2 n2
  rw[AaE r,AaE r']
  grind[Instr.sameNow,Instr.sameBits]
 .subst hk
  rename_i s1 s2;rw[AbB r,AbB r']
  grind[Instr.sameNow,ba_beq,Instr.sameBits]
theorem AyB{d:TypeDesc}{k:AV}{u:Value}{fl:Bool}(r:RV h (Lf ρ sto) fl u k):∀ {es:List (AV×AV)}{en:List MapEntry}{i:Nat}{x:Option (Nat×AV)},en.length=es.length ->
  (∀ (j:Nat) (x:AV×AV) (y:MapEntry),es[j]? = some x->en[j]? = some y->RV h (Lf ρ sto) true y.key x.1/\RV h (Lf ρ sto) false y.val x.2)->(∀ x∈es,liveK x.1=true)->mfind d k es i=some x ->
  match x with
  | none=>Instr.findNow d u en i=some none
  | some (j,v)=>∃ (y:MapEntry) (z:AV×AV),Instr.findNow d u en i=some (some (j,y.val))/\i<=j/\en[j-i]? = some y/\es[j-i]? = some z/\z.2=v/\Instr.sameBits 10000 y.key u=true
 | [],en,i,x,hl,_,_,hx=>by
  simp only[mfind,lam]at hx;subst hx;have:en=[]:=lbb (by omega);subst this; rfl
 | z::es,[],i,x,hl,_,_,_=>by grind
 | z::es,y::en,i,x,hl,hr,hv,hx=>by
  have h0:=hr 0 z y rfl rfl;have hz:=hv z (by simp);simp only[mfind]at hx
  split at hx
  .rename_i hq
   obtain⟨s1,s2⟩:=ApG hq hz r h0.1
   simp at hx
   subst hx;exact⟨y,z,by simp[Instr.findNow,s1],lab _,by simp,by simp,rfl,s2 rfl⟩
  .rename_i hq
   obtain⟨s1,_⟩:=ApG hq hz r h0.1;have ih:=AyB r (by simpa using hl) (fun j a b h1 h2=>hr (j+1) a b h1 h2) (fun x hx=>hv x (by simp[hx])) hx
   cases x with
   | none=>simpa[Instr.findNow,s1]using ih
   | some jv =>
    obtain⟨j,v⟩:=jv;obtain⟨y',z',i1,i2,i3,i4,i5,i6⟩:=ih;have e:j-i=(j-(i+1))+1:=by omega
    exact⟨y',z',by simpa[Instr.findNow,s1]using i1,by omega,by rw[e]; simpa using i3,by rw[e]; simpa using i4,i5,i6⟩
  .cases hx
theorem A0Q{d:TypeDesc}{k k':AV}{u:Value}{fl fl':Bool}(hk:keyEq d k k'=some false)(hlv:liveK k'=true)(r:RV h (Lf ρ sto) fl u k)(r':RV h (Lf ρ sto) fl' u k'):False:=by
 have h1:=(ApG hk hlv r r').1
 cases d <;> cases k <;> cases k' <;> (try(simp[liveK]at hlv; done)) <;> simp[keyEq]at hk
 .have e1:=AaS r; have e2:=AaS r'
  grind
 .have e1:=AaE r; have e2:=AaE r'
  grind
 .have e1:=AbB r; have e2:=AbB r'
  grind
theorem AyC{d:TypeDesc}{k:AV}{u:Value}{fl:Bool}(r:RV h (Lf ρ sto) fl u k):∀ {es:List (AV×AV)}{en:List MapEntry}{i:Nat},en.length=es.length ->
  (∀ (j:Nat) (x:AV×AV) (y:MapEntry),es[j]? = some x->en[j]? = some y->RV h (Lf ρ sto) true y.key x.1/\RV h (Lf ρ sto) false y.val x.2)->(∀ x∈es,liveK x.1=true)->mfind d k es i=some none->∀ y∈en,y.key≠u
 | [],en,i,hl,_,_,_=>by
  grind
 | z::es,[],i,hl,_,_,_=>by grind
 | z::es,y::en,i,hl,hr,hv,hx=>by
  have h0:=hr 0 z y rfl rfl;have hz:=hv z (by simp);simp only[mfind]at hx
  split at hx
  .cases hx
  .rename_i hq
   have ih:=AyC r (by simpa using hl) (fun j a b h1 h2=>hr (j+1) a b h1 h2) (fun x hx=>hv x (by simp[hx])) hx;intro y' hy' e
   rcases List.mem_cons.1 hy' with rfl|hy'
   .rw [e]at h0
    exact A0Q hq hz r h0.1
   .exact ih y' hy' e
  .cases hx
theorem EnOk.push{en:Array MapEntry}{clock:Nat}{es:List (AV×AV)}(h:EnOk en clock es)(hl:en.toList.length=(lvs es).length){k v:Value}{x:AV×AV}(hx:liveK x.1=true)(hk:∀ y∈en.toList,y.key≠k):EnOk (en.push { key:=k,val:=v,born:=clock }) (clock+1) (es++[x]):=by
 obtain⟨h1,h2,h3⟩:=h;have hix:ixs 0 (es++[x])=ixs 0 es++[es.length]:=by grind[ixs_app,ixs]
 refine⟨by simp[h1],fun j y hy=>?_,?_⟩<;>grind[AoQ]
theorem EnOk.modify{en:Array MapEntry}{clock:Nat}{es es':List (AV×AV)}(h:EnOk en clock es)(i:Nat)(f:MapEntry->MapEntry)(hl:es'.length=es.length)(hix:ixs 0 es'=ixs 0 es)(hb:∀ y∈en.toList,(f y).born=y.born)(hk:∀ y,en.toList[i]? = some y->(f y).key=y.key):EnOk (en.modify i f) clock es':=by
 obtain⟨h1,h2,h3⟩:=h;have hget:∀ j,(en.modify i f).toList[j]? = if i=j then en.toList[j]?.map f else en.toList[j]?:=by
  intro j;rw[lby,Array.getElem?_modify]
  split <;> simp
 refine⟨by rw[hl]; exact h1,fun j y hy=>?_,?_⟩
 .rw [hix]
  rw[hget]at hy
  split at hy
  .obtain ⟨z,hz,rfl⟩:=Option.map_eq_some_iff.1 hy
   rw[hb z (laj hz)];exact h2 j z hz
  .exact h2 j y hy
 .have e:(en.modify i f).toList.map (·.key)=en.toList.map (·.key):=by
   apply List.ext_getElem?;intro j;rw[lbf,lbf,hget]
   split
   .rename_i hij
    subst hij
    cases hq:en.toList[i]? with
    | none=>rfl
    | some y=>simp only[lca]; rw[hk y hq]
   .rfl
  have h3':(en.toList.map (·.key)).Pairwise (·≠·):=by rw[List.pairwise_map]; exact h3
  rw[<- e,List.pairwise_map]at h3';exact h3'
theorem EnOk.erase{en:Array MapEntry}{clock:Nat}{es es':List (AV×AV)}(h:EnOk en clock es)(p:Nat)(hl:es'.length=es.length)(hix:ixs 0 es'=(ixs 0 es).eraseIdx p):EnOk (en.eraseIdxIfInBounds p) clock es':=by
 obtain⟨h1,h2,h3⟩:=h;have e:(en.eraseIdxIfInBounds p).toList=en.toList.eraseIdx p:=by simp
 refine⟨by rw[hl]; exact h1,fun j y hy=>?_,?_⟩
 .rw [e,List.getElem?_eraseIdx]at hy
  rw[hix,List.getElem?_eraseIdx]
  split at hy
  .rename_i hj
   rw[if_pos hj];exact h2 j y hy
  .rename_i hj
   rw[if_neg hj];exact h2 (j+1) y hy
 .rw [e]
  exact h3.sublist (List.eraseIdx_sublist _ _)
theorem AkP{d:Option TypeDesc}{x y:AV}{b:Bool}{u v:Value}{fl fl':Bool}(hl:AaX d x y=some b)(r:RV h (Lf ρ sto) fl u x)(r':RV h (Lf ρ sto) fl' v y):(b=true->u=v/\Instr.sameBits 9999 u v=true)/\(u=v->b=true):=by
 unfold AaX at hl
 split at hl
 .cases hl
  rw[AaS r,AaS r'];exact⟨fun hb=>by have:=beq_iff_eq.1 hb; subst this; exact⟨rfl,by simp[Instr.sameBits]⟩,fun e=>by simpa using e⟩
 .split at hl
  .rename_i hk
   subst hk
   cases hl
   rw[AaE r,AaE r'];exact⟨fun hb=>by have:=beq_iff_eq.1 hb; subst this; exact⟨rfl,by simp[Instr.sameBits]⟩,fun e=>by simpa using e⟩
  .cases hl
 .cases hl
  rw[AbB r,AbB r'];exact⟨fun hb=>by have:=beq_iff_eq.1 hb; subst this; exact⟨rfl,by simp only[Instr.sameBits,ba_beq,lbi]⟩,fun e=>by simpa using e⟩
 .cases hl
theorem ArQ:∀ {fs:List Field}{xs ys:LY}{vs us:List Value}{b:Bool}{fl fl':Bool},RL h (Lf ρ sto) fl vs xs->RL h (Lf ρ sto) fl' us ys->xs.length=fs.length->ys.length=fs.length->eqFs P fs xs ys=some b ->
  (b=true->vs=us/\(vs.zip us).all (fun p=>Instr.sameBits 9999 p.1 p.2)=true)/\(vs=us->b=true)
 | [],[],[],vs,us,b,_,_,r1,r2,_,_,hb=>by
  cases r1; cases r2
  simp only[eqFs,lam]at hb;subst hb
  simp
 | f::fs,[],ys,_,_,b,_,_,_,_,h1,_,_=>by simp at h1
 | [],_::_,ys,_,_,b,_,_,_,_,h1,_,_=>by simp at h1
 | [],[],_::_,_,_,b,_,_,_,_,_,h2,_=>by simp at h2
 | f::fs,x::xs,[],_,_,b,_,_,_,_,_,h2,_=>by simp at h2
 | f::fs,x::xs,y::ys,vs,us,b,_,_,r1,r2,h1,h2,hb=>by
  cases r1 with
  | @cons _ v _ vs _ a1 a2 =>
   cases r2 with
   | @cons _ u _ us _ b1 b2 =>
    rw[eqFs]at hb
    cases q1:AaX (P.underlying f.type) x y with
    | none=>rw[q1]at hb; simp[bothB]at hb
    | some p =>
     cases q2:eqFs P fs xs ys with
     | none=>rw[q1,q2]at hb; simp[bothB]at hb
     | some q =>
      rw[q1,q2]at hb;simp only[bothB,lam]at hb;subst hb;have l1:=AkP q1 a1 b1;have l2:=ArQ (fs:=fs) a2 b2 (by simpa using h1) (by simpa using h2) q2;refine⟨fun hh=>?_,fun e=>?_⟩
      .simp only [lac]at hh
       obtain⟨e1,e2⟩:=l1.1 hh.1;obtain⟨e3,e4⟩:=l2.1 hh.2;subst e1 e3;refine⟨rfl,?_⟩;simp only[List.zip_cons_cons,laz,e2,e4,lbo]
      .simp only [List.cons.injEq]at e
       simp[l1.2 e.1,l2.2 e.2]
def KF(P:Program)(kt:TypeId)(w:World)(es:List (AV×AV))(en:List MapEntry)(u:Value):Option (Nat×AV)->Prop
 | none=>(Instr.findKey kt u en).run P w=.ok none w/\∀ y∈en,y.key≠u
 | some (j,v)=>∃ (y:MapEntry) (z:AV×AV),(Instr.findKey kt u en).run P w=.ok (some (j,y.val)) w/\en[j]? = some y/\es[j]? = some z/\z.2=v/\y.key=u/\Instr.sameBits 10000 u u=true
def EnRel(h:Mem)(ρ:Own)(sto:LB)(es:List (AV×AV))(en:List MapEntry):Prop :=
 ∀ (j:Nat) (x:AV×AV) (y:MapEntry),es[j]? = some x->en[j]? = some y->RV h (Lf ρ sto) true y.key x.1/\RV h (Lf ρ sto) false y.val x.2
def KFx(P:Program)(kt:TypeId)(w:World)(es:List (AV×AV))(en:List MapEntry)(u:Value):Option (Nat×AV)->Prop
 | none=>KF P kt w (lvs es) en u none
 | some (j,v)=>∃ p,(ixs 0 es)[p]? = some j/\KF P kt w (lvs es) en u (some (p,v))
theorem AkQ{d:TypeDesc}{k:AV}(hk:AeZ d k=true):∀ {es:List (AV×AV)}{i:Nat}{x:Option (Nat×AV)},mfind d k es i=some x ->
  match x with
  | none=>∀ i',mfind d k (lvs es) i'=some none
  | some (j,v)=>∃ p,(∀ i',mfind d k (lvs es) i'=some (some (i'+p,v)))/\(ixs i es)[p]? = some j
 | [],i,x,h=>by
  simp only[mfind,lam]at h;subst h;exact fun _=>rfl
 | z::es,i,x,h=>by
  cases hl:liveK z.1 with
  | false =>
   obtain⟨a,b⟩:=z;have hq:keyEq d k a=some false:=by
    cases a <;> simp[liveK]at hl
    cases d <;> cases k <;> simp[AeZ]at hk <;> rfl
   simp only[mfind,hq]at h;have ih:=AkQ hk h;simp only[lvs,ixs,hl,lba];exact ih
  | true =>
   simp only[mfind]at h;simp only[lvs,ixs,hl,lav]
   split at h
   .rename_i hq
    simp only[lam]at h;subst h;exact⟨0,fun i'=>by simp[mfind,hq],rfl⟩
   .rename_i hq
    have ih:=AkQ hk h
    cases x with
    | none=>exact fun i'=>by simp only[mfind,hq]; exact ih _
    | some jv =>
     obtain⟨j,v⟩:=jv;obtain⟨p,h1,h2⟩:=ih;exact⟨p+1,fun i'=>by simp only[mfind,hq]; rw[h1]; congr 3; omega,by simpa using h2⟩
   .cases h
theorem BaO{d:TypeDesc}{k k':AV}{u u':Value}{fl fl':Bool}(hk:keyEq d k k'=some true)(r:RV h (Lf ρ sto) fl u k)(r':RV h (Lf ρ sto) fl' u' k'):u'=u:=by
 cases d <;> cases k <;> cases k' <;> simp[keyEq]at hk
 .rw [AaS r,AaS r',hk]
 .rw [AaE r,AaE r']
  grind
 .rw [AbB r,AbB r',hk]
theorem A3U{kt:TypeId}{d:TypeDesc}(hkt:P.underlying kt=some d){k:AV}{u:Value}{fl:Bool}(r:RV h (Lf ρ sto) fl u k){es:List (AV×AV)}{en:List MapEntry}(hl:en.length=es.length)(hr:EnRel h ρ sto es en)
  {x:Option (Nat×AV)} (hv:∀ x∈es,liveK x.1=true) (hx:mfind d k es 0=some x):KF P kt w es en u x:=by
 have f:=AyB r hl hr hv hx
 cases x with
 | none=>exact⟨MapKept.run_findKey hkt f,AyC r hl hr hv hx⟩
 | some jv =>
  obtain⟨j,v⟩:=jv;obtain⟨y,z,f1,f2,f3,f4,f5,f6⟩:=f;simp only[Nat.sub_zero]at f3 f4;have he:y.key=u:=by
   have key:∀ (es:List (AV×AV)) (i:Nat),mfind d k es i=some (some (j,v))->∀ z,es[j-i]? = some z->i<=j->keyEq d k z.1=some true:=by
    intro es
    induction es with
    | nil=>intro i h; simp[mfind]at h
    | cons a es ih =>
     intro i h z hz hij;simp only[mfind]at h
     split at h
     .rename_i hq
      simp only[lam,Prod.mk.injEq]at h;have:j-i=0:=by omega
      rw[this]at hz
      simp at hz
      subst hz;exact hq
     .rename_i hq
      have hne:i+1<=j:=by
       have:∀ (es:List (AV×AV)) (i:Nat),mfind d k es i=some (some (j,v))->i<=j:=by
        intro es
        induction es with
        | nil=>intro i h; simp[mfind]at h
        | cons b es ih2 =>
         intro i h;simp only[mfind]at h
         split at h
         .simp only [lam,Prod.mk.injEq]at h; omega
         .have:=ih2 _ h; omega
         .cases h
       exact this _ _ h
      refine ih (i+1) h z ?_ hne;have e:j-i=(j-(i+1))+1:=by omega
      rw[e]at hz
      simpa using hz
     .cases h
   exact BaO (key es 0 hx z f4 (lbq _)) r (hr j z y f4 f3).1
  exact⟨y,z,MapKept.run_findKey hkt f1,f3,f4,f5,he,by rw[<- he]at f6 |-; exact f6⟩
theorem AgY{kt:TypeId}{d:TypeDesc}(hkt:P.underlying kt=some d){k:AV}{u:Value}{fl:Bool}(hik:AeZ d k=true)(r:RV h (Lf ρ sto) fl u k){es:List (AV×AV)}{en:List MapEntry}(hl:en.length=(lvs es).length)(hr:EnRel h ρ sto (lvs es) en)
  {x:Option (Nat×AV)} (hx:mfind d k es 0=some x):KFx P kt w es en u x:=by
 have f:=AkQ hik hx
 cases x with
 | none=>exact A3U hkt r hl hr (fun _ h=>AfO h) (f 0)
 | some jv =>
  obtain⟨j,v⟩:=jv;obtain⟨p,h1,h2⟩:=f;exact⟨p,h2,A3U hkt r hl hr (fun _ h=>AfO h) (by simpa using h1 0)⟩
theorem A3V{kt:TypeId}{fs:Array Field}(hkt:P.underlying kt=some (.struct fs))(hp:AbR P kt=true){k k':AV}{u u':Value}{b:Bool}(hk:AdY P fs.toList k k'=some b)(hlv:liveK k'=true)(r:RV h (Lf ρ sto) false u k)(r':RV h (Lf ρ sto) false u' k') :
  (Op.equal kt u u').run P w=.ok b w/\(b=true->u'=u/\Instr.sameBits 10000 u u=true)/\(u'=u->b=true):=by
 unfold AdY at hk
 split at hk
 .rename_i xs ys
  obtain⟨vs,rfl,r1⟩:=inv_agg r;obtain⟨us,rfl,r2⟩:=inv_agg r'
  cases hl:decide (xs.length=fs.toList.length)&&decide (ys.length=fs.toList.length)with
  | false=>rw[hl]at hk; simp at hk
  | true =>
   rw[hl]at hk;simp only[lav]at hk;simp only[lac,lao]at hl;have hfo:P.fieldsOf kt=fs:=by simp[Program.fieldsOf,hkt]
   unfold AbR at hp;rw[hkt]at hp;simp only[lac,lbr]at hp;obtain⟨g1,g2,g3⟩:=hp;have s:=ArQ r1 r2 hl.1 hl.2 hk;refine⟨?_,fun hb=>?_,fun e=>s.2 ?_⟩
   .show (Op.equalIn 10000 kt (.agg vs.toArray) (.agg us.toArray)).run P w=.ok b w
    rw[run_equalIn_struct w 9999 kt _ _ (by rw[hfo]; exact hkt) g2,hfo];exact AeO (d:=9998) g3 (by simpa using r1) (by simpa using r2) hk
   .obtain ⟨e1,e2⟩:=s.1 hb
    subst e1;refine⟨rfl,?_⟩
    show(vs.toArray.size==vs.toArray.size&&(vs.toArray.toList.zip vs.toArray.toList).all fun(x,y)=>Instr.sameBits 9999 x y)=true
    simpa using e2
   .simp at e; exact e.symm
 .simp [liveK]at hlv
 .cases hk
def mfindE(E:AV->Option Bool):List (AV×AV)->Nat->Option (Option (Nat×AV))
 | [],_=>some none
 | x::r,i=>match E x.1 with
  | some true=>some (some (i,x.2))
  | some false=>mfindE E r (i+1)
  | none=>none
theorem AjJ{fs:List Field}{k:AV}:∀ (es:List (AV×AV))(i:Nat),mfindS P fs k es i=mfindE (AdY P fs k) es i
 | [],_=>rfl
 | x::r,i=>by
  simp only[mfindS,mfindE,AjJ r]
  cases AdY P fs k x.1 with
  | none=>rfl
  | some b=>cases b <;> rfl
theorem AjK{kt:TypeId}{k:AV}:∀ (es:List (AV×AV))(i:Nat),mfindT P kt k es i=mfindE (AeW P kt k) es i
 | [],_=>rfl
 | x::r,i=>by
  simp only[mfindT,mfindE,AjK r]
  cases AeW P kt k x.1 with
  | none=>rfl
  | some b=>cases b <;> rfl
theorem AiA{E:AV->Option Bool}(hE:∀ a b,E (.fz a b)=some false):∀ {es:List (AV×AV)}{i:Nat}{x:Option (Nat×AV)},mfindE E es i=some x ->
  match x with
  | none=>∀ i',mfindE E (lvs es) i'=some none
  | some (j,v)=>∃ p,(∀ i',mfindE E (lvs es) i'=some (some (i'+p,v)))/\(ixs i es)[p]? = some j
 | [],i,x,h=>by
  simp only[mfindE,lam]at h;subst h;exact fun _=>rfl
 | z::es,i,x,h=>by
  cases hl:liveK z.1 with
  | false =>
   obtain⟨a,b⟩:=z;have hq:E a=some false:=by
    cases a <;> simp[liveK]at hl
    exact hE _ _
   simp only[mfindE,hq]at h;have ih:=AiA hE h;simp only[lvs,ixs,hl,lba];exact ih
  | true =>
   simp only[mfindE]at h;simp only[lvs,ixs,hl,lav]
   split at h
   .rename_i hq
    simp only[lam]at h;subst h;exact⟨0,fun i'=>by simp[mfindE,hq],rfl⟩
   .rename_i hq
    have ih:=AiA hE h
    cases x with
    | none=>exact fun i'=>by simp only[mfindE,hq]; exact ih _
    | some jv =>
     obtain⟨j,v⟩:=jv;obtain⟨p,h1,h2⟩:=ih;exact⟨p+1,fun i'=>by simp only[mfindE,hq]; rw[h1]; congr 3; omega,by simpa using h2⟩
   .cases h
def KeyE(P:Program)(h:Mem)(L:Value->AV->Prop)(w:World)(kt:TypeId)(u:Value)(E:AV->Option Bool):Prop :=
 ∀ {k':AV} {u':Value} {b:Bool},E k'=some b->liveK k'=true->RV h L false u' k'->(Op.equal kt u u').run P w=.ok b w/\(b=true->u'=u/\Instr.sameBits 10000 u u=true)/\(u'=u->b=true)
theorem ArR{kt:TypeId}{fs:Array Field}(hkt:P.underlying kt=some (.struct fs)){E:AV->Option Bool}{u:Value}(hE:KeyE P h (Lf ρ sto) w kt u E){es:List (AV×AV)}{en:List MapEntry}(hl:en.length=es.length)(hr:EnRel h ρ sto es en)
  {x:Option (Nat×AV)} (hv:∀ x∈es,liveK x.1=true) (hx:mfindE E es 0=some x):KF P kt w es en u x:=by
 have hfk:∀ x,(Instr.findAsking kt u en 0).run P w=.ok x w->(Instr.findKey kt u en).run P w=.ok x w:=by
  intro x hx
  cases en with
  | nil =>
   simp only[Instr.findAsking,Sem.run_pure]at hx
   simp[Instr.findKey,run_underlying hkt,Instr.findNow,hx]
  | cons y en =>
   have:Instr.sameNow (.struct fs) u y.key=none:=rfl
   simp[Instr.findKey,run_underlying hkt,Instr.findNow,this,hx]
 have key:∀ (es:List (AV×AV)) (en:List MapEntry) (i:Nat) (x:Option (Nat×AV)),en.length=es.length->EnRel h ρ sto es en->(∀ x∈es,liveK x.1=true)->mfindE E es i=some x ->
   match x with
   | none=>(Instr.findAsking kt u en i).run P w=.ok none w/\∀ y∈en,y.key≠u
   | some (j,v)=>∃ (y:MapEntry) (z:AV×AV),(Instr.findAsking kt u en i).run P w=.ok (some (j,y.val)) w/\i<=j/\en[j-i]? = some y/\es[j-i]? = some z/\z.2=v/\y.key=u/\Instr.sameBits 10000 u u=true:=by
  intro es
  induction es with
  | nil =>
   intro en i x hl _ _ hx;simp only[mfindE,lam]at hx;subst hx;have:en=[]:=lbb (by simpa using hl);subst this
   simp[Instr.findAsking]
  | cons z es ih =>
   intro en i x hl hr hv hx
   cases en with
   | nil=>simp at hl
   | cons y en =>
    have h0:=hr 0 z y rfl rfl;have hz:=hv z (by simp);have h0':RV h (Lf ρ sto) false y.key z.1:=h0.1.thaw (fun _ _ _ x=>x);simp only[mfindE]at hx
    split at hx
    .rename_i hq
     obtain⟨s1,s2,s3⟩:=hE hq hz h0';simp only[lam]at hx;subst hx;obtain⟨e1,e2⟩:=s2 rfl;exact⟨y,z,by simp[Instr.findAsking,s1],lab _,by simp,by simp,rfl,e1,e2⟩
    .rename_i hq
     obtain⟨s1,s2,s3⟩:=hE hq hz h0';have ih:=ih en (i+1) x (by simpa using hl) (fun j a b h1 h2=>hr (j+1) a b h1 h2) (fun x hx=>hv x (by simp[hx])) hx
     cases x with
     | none =>
      refine⟨by simpa[Instr.findAsking,s1]using ih.1,fun y' hy' e=>?_⟩
      rcases List.mem_cons.1 hy' with rfl|hy'
      .exact absurd (s3 e) (by simp)
      .exact ih.2 y' hy' e
     | some jv =>
      obtain⟨j,v⟩:=jv;obtain⟨y',z',i1,i2,i3,i4,i5⟩:=ih;have e:j-i=(j-(i+1))+1:=by omega
      exact⟨y',z',by simpa[Instr.findAsking,s1]using i1,by omega,by rw[e]; simpa using i3,by rw[e]; simpa using i4,i5⟩
    .cases hx
 have:=key es en 0 x hl hr hv hx
 cases x with
 | none=>exact⟨hfk _ this.1,this.2⟩
 | some jv =>
  obtain⟨j,v⟩:=jv;obtain⟨y,z,f1,f2,f3,f4,f5⟩:=this;exact⟨y,z,hfk _ f1,by simpa using f3,by simpa using f4,f5⟩
theorem AdC{kt:TypeId}{fs:Array Field}(hkt:P.underlying kt=some (.struct fs)){E:AV->Option Bool}{u:Value}(hE:KeyE P h (Lf ρ sto) w kt u E)(hz:∀ a b,E (.fz a b)=some false){es:List (AV×AV)}{en:List MapEntry}(hl:en.length=(lvs es).length)(hr:EnRel h ρ sto (lvs es) en)
  {x:Option (Nat×AV)} (hx:mfindE E es 0=some x):KFx P kt w es en u x:=by
 have f:=AiA hz hx
 cases x with
 | none=>exact ArR hkt hE hl hr (fun _ h=>AfO h) (f 0)
 | some jv =>
  obtain⟨j,v⟩:=jv;obtain⟨p,h1,h2⟩:=f;exact⟨p,h2,ArR hkt hE hl hr (fun _ h=>AfO h) (by simpa using h1 0)⟩
theorem A3W{kt:TypeId}{fs:Array Field}(hkt:P.underlying kt=some (.struct fs))(hp:AbR P kt=true){k:AV}{u:Value}(r:RV h (Lf ρ sto) false u k):KeyE P h (Lf ρ sto) w kt u (AdY P fs.toList k) :=
 fun hk hl r'=>A3V (w:=w) hkt hp hk hl r r'
theorem AvH{fs:List Field}{k:AV}(hk:AcV P fs k=true)(a:Nat)(b:LY):AdY P fs k (.fz a b)=some false:=by
 unfold AcV AdY at hk
 cases k <;> first|rfl|(simp at hk)
theorem ArS:∀ {ts:List TypeId}{xs ys:LY}{vs us:List Value}{b:Bool}{fl fl':Bool},RL h (Lf ρ sto) fl vs xs->RL h (Lf ρ sto) fl' us ys->eqLs P ts xs ys=some b ->
  (b=true->vs=us/\(vs.zip us).all (fun p=>Instr.sameBits 9999 p.1 p.2)=true)/\(vs=us->b=true)
 | [],[],[],vs,us,b,_,_,r1,r2,hb=>by
  cases r1; cases r2
  simp only[eqLs,lam]at hb;subst hb
  simp
 | [],[],_::_,_,_,b,_,_,_,_,hb=>by simp[eqLs]at hb
 | [],_::_,_,_,_,b,_,_,_,_,hb=>by simp[eqLs]at hb
 | t::ts,[],_,_,_,b,_,_,_,_,hb=>by simp[eqLs]at hb
 | t::ts,_::_,[],_,_,b,_,_,_,_,hb=>by simp[eqLs]at hb
 | t::ts,x::xs,y::ys,vs,us,b,_,_,r1,r2,hb=>by
  cases r1 with
  | @cons _ v _ vs _ a1 a2 =>
   cases r2 with
   | @cons _ u _ us _ b1 b2 =>
    rw[eqLs]at hb
    cases q1:AaX (P.underlying t) x y with
    | none=>rw[q1]at hb; simp[bothB]at hb
    | some p =>
     cases q2:eqLs P ts xs ys with
     | none=>rw[q1,q2]at hb; simp[bothB]at hb
     | some q =>
      rw[q1,q2]at hb;simp only[bothB,lam]at hb;subst hb;have l1:=AkP q1 a1 b1;have l2:=ArS (ts:=ts) a2 b2 q2;refine⟨fun hh=>?_,fun e=>?_⟩
      .simp only [lac]at hh
       obtain⟨e1,e2⟩:=l1.1 hh.1;obtain⟨e3,e4⟩:=l2.1 hh.2;subst e1 e3;refine⟨rfl,?_⟩;simp only[List.zip_cons_cons,laz,e2,e4,lbo]
      .simp only [List.cons.injEq]at e
       simp[l1.2 e.1,l2.2 e.2]
theorem A3X{kt:TypeId}{fs:Array Field}(hkt:P.underlying kt=some (.struct fs))(hp:AcN P kt=true){k:AV}{u:Value}(r:RV h (Lf ρ sto) false u k):KeyE P h (Lf ρ sto) w kt u (AeW P kt k):=by
 intro k' u' b hk hlv r';unfold AeW at hk
 split at hk
 .rename_i xs ys
  obtain⟨vs,rfl,r1⟩:=inv_agg r;obtain⟨us,rfl,r2⟩:=inv_agg r';unfold AcN at hp;simp only[lac,lbr]at hp;obtain⟨g1,g2⟩:=hp;have s:=ArS r1 r2 hk;refine⟨BdW (d:=9995) 4 hkt g2 r1 r2 hk,fun hb=>?_,fun e=>s.2 ?_⟩
  .obtain ⟨e1,e2⟩:=s.1 hb
   subst e1;refine⟨rfl,?_⟩
   show(vs.toArray.size==vs.toArray.size&&(vs.toArray.toList.zip vs.toArray.toList).all fun(x,y)=>Instr.sameBits 9999 x y)=true
   simpa using e2
  .simp at e; exact e.symm
 .simp [liveK]at hlv
 .cases hk
theorem AvI{kt:TypeId}{k:AV}(hk:AcU P kt k=true)(a:Nat)(b:LY):AeW P kt k (.fz a b)=some false:=by
 unfold AcU AeW at hk
 cases k <;> first|rfl|(simp at hk)
theorem AkR{b:Bool}{u:List Value}:∀ {fs:List Field}{i:Nat}{xs:LY},offsOk i fs=true->RL h (Lf ρ sto) false (u.drop i) xs->eqFs P fs xs xs=some true ->
  (forIn fs PUnit.unit (fun (f:Field) (_:PUnit)=>(if f.name ≠ "_" then (do
    let x <- part f.type u.toArray f.offset
    Instr.checkKey b 9999 f.type x
    pure (ForInStep.yield PUnit.unit)) else pure (ForInStep.yield PUnit.unit):Sem (ForInStep PUnit)))).run P w=.ok PUnit.unit w
 | [],i,xs,_,_,_=>by simp
 | f::fs,i,[],_,_,hb=>by simp[eqFs]at hb
 | f::fs,i,x::xs,ho,r,hb=>by
  simp only[offsOk,lac,bne_iff_ne,ne_eq,lbx]at ho;obtain⟨o1,o2,o3⟩:=ho;obtain⟨v,v1,v2,v3⟩:=r.drop1;rw[eqFs]at hb
  cases h1:AaX (P.underlying f.type) x x with
  | none=>rw[h1]at hb; simp[bothB]at hb
  | some p =>
   cases h2:eqFs P fs xs xs with
   | none=>rw[h1,h2]at hb; simp[bothB]at hb
   | some q =>
    rw[h1,h2]at hb;simp only[bothB,lam,lac]at hb;have ih:=AkR (b:=b) (u:=u) o3 v3 (by rw[h2,hb.2]);have hpart:=AeA (w:=w) h1 (cs:=u.toArray) (i:=i) (by simpa using v1);have hck':∀ n,(Instr.checkKey b (n+1) f.type v).run P w=.ok () w:=by
     intro n;obtain⟨d,hd⟩:∃ d,P.underlying f.type=some d:=by
      cases hq:P.underlying f.type with
      | none=>rw[hq]at h1; simp[AaX]at h1
      | some d=>exact⟨d,rfl⟩
     rw[hd]at h1
     cases d <;> first|(simp[Instr.checkKey,run_underlying hd]; done)|(simp[AaX]at h1; done)
    have hck:=hck' 9998;rw[List.forIn_cons];simp only[Sem.run_bind,o1,not_false_eq_true,if_true,o2,hpart,hck,Result.andThen_ok,ne_eq,Sem.run_pure];exact ih
theorem AfC{kt:TypeId}{fs:Array Field}(hkt:P.underlying kt=some (.struct fs))(hp:AbR P kt=true){k:AV}{u:Value}(r:RV h (Lf ρ sto) false u k)(hk:AcV P fs.toList k=true)(b:Bool):(Instr.checkKey b 10000 kt u).run P w=.ok () w:=by
 unfold AcV AdY at hk
 cases k with
 | agg xs =>
  obtain⟨vs,rfl,r1⟩:=inv_agg r;simp only at hk
  cases hl:decide (xs.length=fs.toList.length)with
  | false=>rw[hl]at hk; simp at hk
  | true =>
   rw[hl]at hk;simp only[lbo,lav]at hk;unfold AbR at hp;rw[hkt]at hp;simp only[lac,lbr]at hp;obtain⟨g1,g2,g3⟩:=hp;have hb:eqFs P fs.toList xs xs=some true:=by
    cases hq:eqFs P fs.toList xs xs with
    | none=>rw[hq]at hk; simp at hk
    | some c=>rw[hq]at hk; cases c <;> simp at hk |-
   have:=AkR (w:=w) (b:=b) (u:=vs) g3 (by simpa using r1) hb;have e:(10000:Nat)=9999+1:=rfl;rw[e];unfold Instr.checkKey;simp only[Sem.run_bind,run_underlying hkt,Result.andThen_ok];rw[<- Array.forIn_toList,this];rfl
 | _=>simp at hk
theorem A0R{fs:List Field}{k:AV}{u:Value}(r:RV h (Lf ρ sto) false u k)(hk:AcV P fs k=true){h':Mem}{Lf':Value->AV->Prop}{f:Bool}(hh:∀ b o v,h b o=some v->h' b o=some v):RV h' Lf' f u k:=by
 unfold AcV AdY at hk
 cases k with
 | agg xs =>
  obtain⟨vs,rfl,r1⟩:=inv_agg r;simp only at hk
  cases hl:decide (xs.length=fs.length)with
  | false=>rw[hl]at hk; simp at hk
  | true =>
   rw[hl]at hk;simp only[lbo,lav]at hk;have hx:xs.all frozen=true:=by
    have key:∀ (fs:List Field) (xs:LY),xs.length=fs.length->(∃ b,eqFs P fs xs xs=some b)->xs.all frozen=true:=by
     intro fs
     induction fs with
     | nil=>intro xs h _; have:=lbb h; subst this; rfl
     | cons f fs ih =>
      intro xs h hb
      cases xs with
      | nil=>simp at h
      | cons x xs =>
       obtain⟨b,hb⟩:=hb;rw[eqFs]at hb
       cases h1:AaX (P.underlying f.type) x x with
       | none=>rw[h1]at hb; simp[bothB]at hb
       | some p =>
        cases h2:eqFs P fs xs xs with
        | none=>rw[h1,h2]at hb; simp[bothB]at hb
        | some q =>
         have:=ih xs (by simpa using h) ⟨q,h2⟩;simp only[laz,this,lbw]
         cases x <;> first|rfl|(exfalso; revert h1; unfold AaX; split <;> simp_all; done)
    refine key fs xs (of_decide_eq_true hl) ?_
    cases hq:eqFs P fs xs xs with
    | none=>rw[hq]at hk; simp at hk
    | some c=>exact⟨c,rfl⟩
   exact .agg _ _ ((AcI r1 hx).thaw hh)
 | _=>simp at hk
theorem AyD:∀ {ts:List TypeId}{xs:LY}{b:Bool},eqLs P ts xs xs=some b->xs.all frozen=true
 | [],[],_,_=>rfl
 | [],_::_,_,h=>by simp[eqLs]at h
 | _::_,[],_,h=>by simp[eqLs]at h
 | t::ts,x::xs,b,h=>by
  rw[eqLs]at h
  cases h1:AaX (P.underlying t) x x with
  | none=>rw[h1]at h; simp[bothB]at h
  | some p =>
   cases h2:eqLs P ts xs xs with
   | none=>rw[h1,h2]at h; simp[bothB]at h
   | some q =>
    have:=AyD h2;simp only[laz,this,lbw]
    cases x <;> first|rfl|(exfalso; revert h1; unfold AaX; split <;> simp_all; done)
theorem A0S{kt:TypeId}{k:AV}{u:Value}(r:RV h (Lf ρ sto) false u k)(hk:AcU P kt k=true){h':Mem}{Lf':Value->AV->Prop}{f:Bool}(hh:∀ b o v,h b o=some v->h' b o=some v):RV h' Lf' f u k:=by
 unfold AcU AeW at hk
 cases k with
 | agg xs =>
  obtain⟨vs,rfl,r1⟩:=inv_agg r;simp only at hk
  cases hq:eqLs P (leafTs P 4 kt) xs xs with
  | none=>rw[hq]at hk; simp at hk
  | some c=>exact .agg _ _ ((AcI r1 (AyD hq)).thaw hh)
 | _=>simp at hk
theorem A0T{t:TypeId}{x y:AV}{c:Bool}(h1:AaX (P.underlying t) x y=some c)(b:Bool)(n:Nat)(v:Value):(Instr.checkKey b (n+1) t v).run P w=.ok () w:=by
 obtain⟨d,hd⟩:∃ d,P.underlying t=some d:=by
  cases hq:P.underlying t with
  | none=>rw[hq]at h1; simp[AaX]at h1
  | some d=>exact⟨d,rfl⟩
 rw[hd]at h1
 cases d <;> first|(simp[Instr.checkKey,run_underlying hd]; done)|(simp[AaX]at h1; done)
theorem BdX{e:Bool}{d:Nat}:∀ (n:Nat){t:TypeId}{vs:List Value}{xs:LY}{fs:Array Field}{b:Bool},P.underlying t=some (.struct fs)->shapeT P n t=true->RL h (Lf ρ sto) false vs xs->eqLs P (leafTs P n t) xs xs=some b ->
  (Instr.checkKey e (d+n+1) t (.agg vs.toArray)).run P w=.ok () w
 | 0,t,vs,xs,fs,b,ht,hs,_,_=>by simp[shapeT,ht]at hs
 | n+1,t,vs,xs,fs,b,ht,hs,r1,hb=>by
  simp only[shapeT,ht,lac,lbr]at hs;obtain⟨hs1,hs2⟩:=hs;simp only[leafTs,ht]at hb;have key:∀ (fl:List Field) (i:Nat) (b:Bool),offsG P (shapeT P n) (leafTs P n) i fl=true->eqLs P (fl.flatMap fun f=>leafTs P n f.type) (xs.drop i) (xs.drop i)=some b ->
    (forIn fl PUnit.unit (fun (f:Field) (_:PUnit)=>(if f.name ≠ "_" then (do
     let x <- part f.type vs.toArray f.offset
     Instr.checkKey e (d+n+1) f.type x
     pure (ForInStep.yield PUnit.unit)) else pure (ForInStep.yield PUnit.unit):Sem (ForInStep PUnit)))).run P w=.ok PUnit.unit w:=by
   intro fl
   induction fl with
   | nil=>intro i b _ _; simp
   | cons f fl ih =>
    intro i b ho hb;simp only[offsG,lac,bne_iff_ne,ne_eq,lbx]at ho;obtain⟨o1,o2,o3,⟨o4,o6⟩,o5⟩:=ho;simp only[lao]at o6;simp only[List.flatMap_cons]at hb;obtain⟨p,q,k1,k2,k3,k4,k5⟩:=ApF hb;rw[List.drop_drop]at k2;have ih:=ih (i+(leafTs P n f.type).length) q o5 k2;have key:∃ u,(part f.type vs.toArray f.offset).run P w=.ok u w/\(Instr.checkKey e (d+n+1) f.type u).run P w=.ok () w:=by
     rw[o2]
     by_cases hst:∃ gs,P.underlying f.type=some (.struct gs)
     .obtain ⟨gs,hd⟩:=hst
      have hh:has (P.underlying f.type):=by rw[hd]; rfl
      simp only[List.length_drop]at k4 k5;obtain⟨u,u1,u2⟩:=part_run (w:=w) hh r1 (off:=i) (by rw[hd]; simp only[isRow,xpartOk,lav]; omega);rw[hd]at u2;simp only[isRow,xpart,lav]at u2;obtain⟨us',rfl,ru⟩:=inv_agg u2;rw[o4]at ru;exact⟨_,u1,BdX (d:=d) n hd o3 ru k1⟩
     .have hlf:=AkO (P:=P) (t:=f.type) (fun gs e=>hst ⟨gs,e⟩) n
      rw[hlf]at k1 k4 k5;simp only[laf,lar,lau,List.length_drop]at k1 k4 k5;have hx:xs.drop i=xs[i]'(by omega)::xs.drop (i+1):=lbc (by omega);rw[hx]at k1;simp only[lcb,List.take_zero,eqLs]at k1;obtain⟨v,v1,v2,v3⟩:=RL.drop1 (i:=i) (x:=xs[i]'(by omega)) (xs:=xs.drop (i+1)) (by rw[<- hx]; exact r1.drop i)
      cases hl:AaX (P.underlying f.type) (xs[i]'(by omega)) (xs[i]'(by omega))with
      | none=>rw[hl]at k1; simp[bothB]at k1
      | some c=>exact⟨v,AeA (w:=w) hl (by simpa using v1),A0T hl e (d+n) v⟩
    obtain⟨u,u1,hq⟩:=key;rw[List.forIn_cons];simp only[Sem.run_bind,o1,not_false_eq_true,if_true,u1,hq,Result.andThen_ok,ne_eq,Sem.run_pure];exact ih
  have:=key fs.toList 0 b hs2 (by simpa using hb);rw[show d+(n+1)+1=(d+n+1)+1 by omega];unfold Instr.checkKey;simp only[Sem.run_bind,run_underlying ht,Result.andThen_ok];rw[<- Array.forIn_toList,this];rfl
theorem AvJ{kt:TypeId}{fs:Array Field}(hkt:P.underlying kt=some (.struct fs))(hp:AcN P kt=true){k:AV}{u:Value}(r:RV h (Lf ρ sto) false u k)(hk:AcU P kt k=true)(b:Bool):(Instr.checkKey b 10000 kt u).run P w=.ok () w:=by
 unfold AcU AeW at hk
 cases k with
 | agg xs =>
  obtain⟨vs,rfl,r1⟩:=inv_agg r;simp only at hk;unfold AcN at hp;simp only[lac,lbr]at hp
  cases hq:eqLs P (leafTs P 4 kt) xs xs with
  | none=>rw[hq]at hk; simp at hk
  | some c=>exact BdX (d:=9995) 4 hkt hp.2 r1 hq
 | _=>simp at hk
theorem AfQ{d:TypeDesc}{k:AV}(h:AeZ d k=true):liveK k=true:=by
 cases k <;> cases d <;> first|rfl|simp[AeZ]at h
theorem AvK{fs:List Field}{k:AV}(h:AcV P fs k=true):liveK k=true:=by
 unfold AcV AdY at h
 cases k <;> first|rfl|simp at h
theorem AvL{kt:TypeId}{k:AV}(h:AcU P kt k=true):liveK k=true:=by
 unfold AcU AeW at h
 cases k <;> first|rfl|simp at h
theorem AfR(m:Mine h ρ sto w){id g clock clock':Nat}{en en':Array MapEntry}{es es':List (AV×AV)}(hb:sto[id]? = some (.mp es))(hg:ρ id=some (g,0))(o2:w.heap[g]? = some (.map en clock))
  (hlen:en'.toList.length=(lvs es').length) (hrel:EnRel h ρ sto (lvs es') en'.toList) (hok:EnOk en' clock' es') :
  Mine h ρ (sto.set id (.mp es')) { w with heap:=w.heap.setIfInBounds g (.map en' clock') }/\Later h ρ sto w h ρ (sto.set id (.mp es')) { w with heap:=w.heap.setIfInBounds g (.map en' clock') }:=by
 obtain⟨hs1,hs2⟩:=MapKept.heap_set (o':=.map en' clock') o2;refine m.write (w':={ w with heap:=w.heap.setIfInBounds g (.map en' clock') }) hb (b':=.mp es') hg trivial rfl rfl ⟨rfl,Tr.same rfl⟩ (by simp) (fun k' hk'=>hs2 k' hk') ?_;refine⟨g,en',clock',hg,hs1,hlen,fun j x y h1 h2=>?_,hok⟩;obtain⟨p,q⟩:=hrel j x y h1 h2;have hkp:∀ v a,Lf ρ sto v a->Lf ρ (sto.set id (.mp es')) v a:=fun v a lf=>⟨lf.1,AbK hb (fun _ _=>rfl) rfl lf.2⟩
 exact⟨p.mono (fun _ _ _ x=>x) hkp,q.mono (fun _ _ _ x=>x) hkp⟩
theorem EnRel.set{es:List (AV×AV)}{en:Array MapEntry}(r:EnRel h ρ sto es en.toList){i:Nat}{ka va:AV}{f:MapEntry->MapEntry}(hf:∀ y,en.toList[i]? = some y->RV h (Lf ρ sto) true (f y).key ka/\RV h (Lf ρ sto) false (f y).val va):EnRel h ρ sto (es.set i (ka,va)) (en.modify i f).toList:=by
 intro j x' y' h1 h2;rw[lby,Array.getElem?_modify]at h2
 by_cases hj:i=j
 .grind
 .rw [lax hj]at h1
  exact r j x' y' h1 (by grind)
theorem EnRel.push{es:List (AV×AV)}{en:Array MapEntry}(r:EnRel h ρ sto es en.toList)(hl:en.toList.length=es.length){ka va:AV}{y:MapEntry}(hk:RV h (Lf ρ sto) true y.key ka)(hv:RV h (Lf ρ sto) false y.val va):EnRel h ρ sto (es++[(ka,va)]) (en.push y).toList:=by
 intro j x' y' h1 h2;rw[Array.toList_push]at h2
 by_cases hj:j<es.length
 .rw [lat hj]at h1
  rw[lat (by omega)]at h2;exact r j x' y' h1 h2
 grind
theorem EnRel.erase{es:List (AV×AV)}{en:Array MapEntry}(r:EnRel h ρ sto es en.toList)(p:Nat):EnRel h ρ sto (es.eraseIdx p) (en.eraseIdxIfInBounds p).toList:=by
 intro j x' y' h1 h2;have e:(en.eraseIdxIfInBounds p).toList=en.toList.eraseIdx p:=by simp
 rw[e,List.getElem?_eraseIdx]at h2;rw[List.getElem?_eraseIdx]at h1
 split at h2
 .rename_i hj
  rw[if_pos hj]at h1;exact r j x' y' h1 h2
 .rename_i hj
  rw[if_neg hj]at h1;exact r (j+1) x' y' h1 h2
theorem AeB{id:Nat}{es:List (AV×AV)}(hb:sto.getD id .dead=.mp es):sto[id]? = some (.mp es):=by
 grind
theorem AnI(m:Mine h ρ sto w){id:Nat}{es:List (AV×AV)}{u:Value}{fl:Bool}(hb:sto[id]? = some (.mp es))(r:RV h (Lf ρ sto) fl u (.mp id)) :
  ∃ g en clock,u=.map (some g)/\ρ id=some (g,0)/\w.heap[g]? = some (.map en clock)/\en.toList.length=(lvs es).length/\EnRel h ρ sto (lvs es) en.toList/\EnOk en clock es:=by
 have hl:=(AgI r).2;simp only[LfC,hb]at hl;obtain⟨g,hg,rfl⟩:=hl;obtain⟨g',en,clock,o1,o2,o3,o4,o5⟩:=m.own id _ hb;have:g'=g:=by rw[hg]at o1; simpa using o1.symm
 subst this;exact⟨g',en,clock,rfl,hg,o2,o3,o4,o5⟩
theorem A3Y{t kt et:TypeId}(m:Mine h ρ sto w){id:Nat}{es:List (AV×AV)}{um uk uv:Value}{ka va:AV}(ht:P.underlying t=some (.map kt et))(hb:sto[id]? = some (.mp es))(hm:RV h (Lf ρ sto) false um (.mp id))(hlv:liveK ka=true)
  (hc:(Instr.checkKey false 10000 kt uk).run P w=.ok () w) (rk:RV h (Lf ρ sto) true uk ka) (hv:RV h (Lf ρ sto) false uv va) {x:Option (Nat×AV)} (hf:∀ en:List MapEntry,en.length=(lvs es).length->EnRel h ρ sto (lvs es) en->KFx P kt w es en uk x) :
  Okv h ρ sto w (((Instr.mapUpdate t um uk uv).run P w).andThen fun _ w'=>.ok .skip w') (.raw undef) (sto.set id (.mp (match x with|some (i,_)=>es.set i (ka,va)|none=>es++[(ka,va)]))):=by
 obtain⟨g,en,clock,rfl,hg,o2,o3,o4,o5⟩:=AnI m hb hm;have f:=hf en.toList o3 o4
 cases x with
 | none =>
  obtain⟨f1,f2⟩:=f;have hla:lvs (es++[(ka,va)])=lvs es++[(ka,va)]:=by rw[AuS]; simp[lvs,hlv]
  obtain⟨m',l'⟩:=AfR m hb hg o2 (en':=en.push { key:=uk,val:=uv,born:=clock }) (clock':=clock+1) (es':=es++[(ka,va)]) (by rw[hla]; simpa using o3) (by rw[hla]; exact o4.push o3 rk hv) (o5.push o3 (x:=(ka,va)) hlv f2);refine⟨_,_,_,_,.inr ⟨?_,rfl⟩,m',l',.raw _⟩
  simp[Instr.mapUpdate,run_underlying ht,MapKept.run_getObj_map o2,hc,f1,MapKept.run_setObj_map _ o2,Result.andThen]
 | some jv =>
  obtain⟨j,v⟩:=jv;obtain⟨p,hp,y,z,f1,f3,f4,f5,f6,f7⟩:=f;have f3':en[p]? = some y:=by simpa using f3
  obtain⟨hs1,hs2⟩:=AkA (x:=(ka,va)) hlv (i:=0) (p:=p) (j:=j) (by rw[lau]; exact hp);obtain⟨m',l'⟩:=AfR m hb hg o2 (en':=en.modify p fun e=>{ e with key:=uk,val:=uv }) (clock':=clock) (es':=es.set j (ka,va)) (by rw[hs1]; simpa using o3) (by rw[hs1]; exact o4.set (fun _ _=>⟨rk,hv⟩)) (o5.modify p _ (by simp) (hs2 0) (fun _ _=>rfl) (fun y' hy'=>by
   rw[f3]at hy'; cases hy'; exact f6.symm))
  refine⟨_,_,_,_,.inr ⟨?_,rfl⟩,m',l',.raw _⟩
  simp[Instr.mapUpdate,run_underlying ht,MapKept.run_getObj_map o2,hc,f1,f3',f6,Instr.keyThatStays,f7,MapKept.run_setObj_map _ o2,Result.andThen]
theorem ArT{t:TypeId}{x k v:Operand}{o:Oper}{e:Env}{a:Act}(ho:o.op=.mapUpdate t x k v)(m:Mine h ρ sto w)(he:EnvOk h ρ sto e a) :
  Lm P h ρ sto w ((execOp a.eval o).run P w) (BaC P sto (ev e x) (ev e k) (ev e v) (P.underlying t)):=by
 have hx:=AaF he x;have hk:=AaF he k;have hv:=AaF he v;have hrun:(execOp a.eval o).run P w=((Instr.mapUpdate t (a.eval x) (a.eval k) (a.eval v)).run P w).andThen fun _ w'=>.ok .skip w':=by
  simp[execOp,ho]
 rw[hrun];generalize a.eval x=ux at *;generalize a.eval k=uk at *;generalize a.eval v=uv at *;generalize ev e k=ka at *;generalize ev e v=va at *;unfold BaC
 split
 .rename_i kt et ht
  split
  .rename_i fs id hkt hm
   rw[hm]at hx
   cases hfl:AaM P kt with
   | true =>
    simp only[lav];unfold A3G
    split
    .rename_i es hb
     have hb':=AeB hb
     cases hik:AcV P fs.toList ka with
     | false=>trivial
     | true =>
      simp only[lav]
      cases hf:mfindS P fs.toList ka es 0 with
      | none=>unfold AkF; trivial
      | some r =>
       rw[AjJ]at hf;have key:=fun hp:AbR P kt=true=>A3Y (va:=va) m ht hb' hx (AvK hik) (AfC hkt hp hk hik false) (A0R hk hik (fun _ _ _ x=>x)) hv (fun en hl hr=>AdC (w:=w) hkt (A3W hkt hp hk) (AvH hik) hl hr hf)
       cases r with
       | none=>exact fun hp=>key hp.1
       | some jv=>obtain⟨j,v'⟩:=jv; exact fun hp=>key hp.1
    .trivial
   | false =>
    simp only[lba];unfold A3H
    split
    .rename_i es hb
     have hb':=AeB hb
     cases hik:AcU P kt ka with
     | false=>trivial
     | true =>
      simp only[lav]
      cases hf:mfindT P kt ka es 0 with
      | none=>unfold AkF; trivial
      | some r =>
       rw[AjK]at hf;have key:=fun hp:AcN P kt=true=>A3Y (va:=va) m ht hb' hx (AvL hik) (AvJ hkt hp hk hik false) (A0S hk hik (fun _ _ _ x=>x)) hv (fun en hl hr=>AdC (w:=w) hkt (A3X hkt hp hk) (AvI hik) hl hr hf)
       cases r with
       | none=>exact fun hp=>key hp.1
       | some jv=>obtain⟨j,v'⟩:=jv; exact fun hp=>key hp.1
    .trivial
  .rename_i d id hns hkt hm
   rw[hm]at hx;unfold A3F
   split
   .rename_i es hb
    have hb':=AeB hb
    cases hik:AeZ d ka with
    | false=>trivial
    | true =>
     simp only[lav];obtain⟨ik,rk⟩:=AjI hik hk
     cases hf:mfind d ka es 0 with
     | none=>unfold AkF; trivial
     | some r =>
      have key:=A3Y (va:=va) m ht hb' hx (AfQ hik) (MapKept.run_checkKey hkt ik false 9999) rk hv (fun en hl hr=>AgY (w:=w) hkt hik hk hl hr hf)
      cases r with
      | none=>exact fun _=>key
      | some jv=>obtain⟨j,v'⟩:=jv; exact fun _=>key
   .trivial
  .trivial
 .trivial
theorem del_ok{t rt kt et:TypeId}(m:Mine h ρ sto w){id:Nat}{es:List (AV×AV)}{um uk:Value}(ht:P.underlying t=some (.map kt et))(hb:sto[id]? = some (.mp es))(hm:RV h (Lf ρ sto) false um (.mp id))
  (hc:∀ b,(Instr.checkKey b 10000 kt uk).run P w=.ok () w) {p:Prop} {x:Option (Nat×AV)} (hf:p->∀ en:List MapEntry,en.length=(lvs es).length->EnRel h ρ sto (lvs es) en->KFx P kt w es en uk x) {r:Result Next}
  (hr:r=((Builtin.delete_ #[t,rt] rt #[um,uk]).run P w).andThen fun v w'=>.ok (.value v) w') :
  Lm P h ρ sto w r (A3I sto id es p (some x)):=by
 obtain⟨g,en,clock,rfl,hg,o2,o3,o4,o5⟩:=AnI m hb hm;have hself:({ w with heap:=w.heap.setIfInBounds g (.map en clock) }:World)=w:=by
  have:w.heap.setIfInBounds g (.map en clock)=w.heap:=by
   apply Array.ext (by simp);intro i h1 h2;rw[Array.getElem_setIfInBounds]
   split
   .rename_i e
    subst e;have:=(Array.getElem?_eq_some_iff.1 o2).2;exact this.symm
   .rfl
  rw[this]
 cases x with
 | none =>
  intro hp;obtain⟨f1,f2⟩:=hf hp en.toList o3 o4;refine AaA m (u:=.tuple #[]) ?_ (.tup [] [] .nil);rw[hr]
  simp[Builtin.delete_,run_underlying ht,MapKept.run_getObj_map o2,hc,f1,MapKept.run_setObj_map _ o2,Result.andThen,hself]
 | some jv =>
  obtain⟨j,v⟩:=jv;intro hp;obtain⟨p',hp',y,z,f1,f3,f4,f5,f6,f7⟩:=hf hp en.toList o3 o4;obtain⟨hs1,hs2⟩:=AuT (i:=0) (p:=p') (j:=j) (by rw[lau]; exact hp');have hpl:=(List.getElem?_eq_some_iff.1 f3).1;obtain⟨m',l'⟩:=AfR m hb hg o2 (en':=en.eraseIdxIfInBounds p') (clock':=clock) (es':=es.set j tomb) (by rw[hs1]; simp[List.length_eraseIdx]; simpa using o3▸rfl) (by rw[hs1]; exact o4.erase p') (o5.erase p' (by simp) (hs2 0));refine⟨.tuple #[],_,_,_,.inl ?_,m',l',.tup [] [] .nil⟩;rw[hr]
  simp[Builtin.delete_,run_underlying ht,MapKept.run_getObj_map o2,hc,f1,MapKept.run_setObj_map _ o2,Result.andThen]
theorem A3Z{t:TypeId}(hz:zok P t=true):∃ v,(zeroValue t).run P w=.ok v w/\∀ {h:Mem}{L:Value->AV->Prop},RV h L false v (zval P t):=by
 unfold zok at hz
 cases hq:P.info? t with
 | none=>grind
 | some i =>
  cases hq2:i.zero with
  | none=>grind
  | some zv =>
   refine⟨zv,by simp_all[zeroValue,typeInfo],fun{h L}=>?_⟩;simp only[zval,hq,hq2,Option.bind_some];have hcs:∀ vs:List Value,RL h L false vs (vs.map AdU):=by
    intro vs
    induction vs with
    | nil=>exact .nil
    | cons v vs ih =>
     refine .cons ?_ ih
     cases v <;> first|exact .int _ _|exact .bool _|exact .str _|exact .raw _
   cases zv <;> first|exact .agg _ _ (hcs _)|exact .int _ _|exact .bool _|exact .str _|exact .raw _
theorem AvM{t kt et:TypeId}{c:Bool}(m:Mine h ρ sto w){id:Nat}{es:List (AV×AV)}{um uk:Value}(ht:P.underlying t=some (.map kt et))(hb:sto[id]? = some (.mp es))(hm:RV h (Lf ρ sto) false um (.mp id))
  (hc:∀ b,(Instr.checkKey b 10000 kt uk).run P w=.ok () w) {x:Option (Nat×AV)} (hf:∀ en:List MapEntry,en.length=(lvs es).length->EnRel h ρ sto (lvs es) en->KFx P kt w es en uk x) :
  match x with
  | some (_,v)=>Okv h ρ sto w (((Instr.lookup t um uk c).run P w).andThen fun v w'=>.ok (.value v) w') (bif c then .tup [v,.bool true] else v) sto
  | none=>zok P et=true->Okv h ρ sto w (((Instr.lookup t um uk c).run P w).andThen fun v w'=>.ok (.value v) w') (bif c then .tup [zval P et,.bool false] else zval P et) sto:=by
 obtain⟨g,en,clock,rfl,hg,o2,o3,o4,o5⟩:=AnI m hb hm;have f:=hf en.toList o3 o4
 cases x with
 | none =>
  obtain⟨f1,f2⟩:=f;intro hz;obtain⟨zv,hz1,hz2⟩:=A3Z (w:=w) hz;refine AaA m (u:=if c then .tuple #[zv,.bool false] else zv) ?_ ?_
  .simp [Instr.lookup,run_underlying ht,MapKept.run_getObj_map o2,hc,f1,hz1,Result.andThen]
  .cases c with
   | true=>exact .tup [_,_] [_,_] (.cons hz2 (.cons (.bool _) .nil))
   | false=>exact hz2
 | some jv =>
  obtain⟨j,v⟩:=jv;obtain⟨p,hp,y,z,f1,f3,f4,f5,f6,f7⟩:=f;obtain⟨_,q⟩:=o4 p z y f4 f3;subst f5;refine AaA m (u:=if c then .tuple #[y.val,.bool true] else y.val) ?_ ?_
  .simp [Instr.lookup,run_underlying ht,MapKept.run_getObj_map o2,hc,f1,Result.andThen]
  .cases c with
   | true=>exact .tup [_,_] [_,_] (.cons q (.cons (.bool _) .nil))
   | false=>exact q
theorem A4A{t:TypeId}{x k:Operand}{c:Bool}{o:Oper}{e:Env}{a:Act}(ho:o.op=.lookup t x k c)(m:Mine h ρ sto w)(he:EnvOk h ρ sto e a) :
  Lm P h ρ sto w ((execOp a.eval o).run P w) (ArI P sto (ev e x) (ev e k) c (P.underlying t)):=by
 have hx:=AaF he x;have hk:=AaF he k;have hrun:(execOp a.eval o).run P w=((Instr.lookup t (a.eval x) (a.eval k) c).run P w).andThen fun v w'=>.ok (.value v) w':=by
  simp[execOp,ho]
 rw[hrun];generalize a.eval x=ux at *;generalize a.eval k=uk at *;generalize ev e k=ka at *;unfold ArI
 split
 .rename_i kt et ht
  split
  .rename_i fs id hkt hm
   rw[hm]at hx
   cases hfl:AaM P kt with
   | true =>
    simp only[lav];unfold AxU
    split
    .rename_i es hb
     have hb':=AeB hb
     cases hik:AcV P fs.toList ka with
     | false=>trivial
     | true =>
      simp only[lav]
      cases hf:mfindS P fs.toList ka es 0 with
      | none=>trivial
      | some r =>
       rw[AjJ]at hf;have key:=fun hp:AbR P kt=true=>AvM (c:=c) m ht hb' hx (fun b=>AfC hkt hp hk hik b) (fun en hl hr=>AdC (w:=w) hkt (A3W hkt hp hk) (AvH hik) hl hr hf)
       cases r with
       | none=>exact fun hp=>key hp.1 hp.2
       | some jv=>obtain⟨j,v'⟩:=jv; exact fun hp=>key hp
    .trivial
   | false =>
    simp only[lba];unfold AxW
    split
    .rename_i es hb
     have hb':=AeB hb
     cases hik:AcU P kt ka with
     | false=>trivial
     | true =>
      simp only[lav]
      cases hf:mfindT P kt ka es 0 with
      | none=>trivial
      | some r =>
       rw[AjK]at hf;have key:=fun hp:AcN P kt=true=>AvM (c:=c) m ht hb' hx (fun b=>AvJ hkt hp hk hik b) (fun en hl hr=>AdC (w:=w) hkt (A3X hkt hp hk) (AvI hik) hl hr hf)
       cases r with
       | none=>exact fun hp=>key hp.1 hp.2
       | some jv=>obtain⟨j,v'⟩:=jv; exact fun hp=>key hp
    .trivial
  .rename_i d id hns hkt hm
   rw[hm]at hx;unfold AxV
   split
   .rename_i es hb
    have hb':=AeB hb
    cases hik:AeZ d ka with
    | false=>trivial
    | true =>
     simp only[lav];obtain⟨ik,rk⟩:=AjI hik hk
     cases hf:mfind d ka es 0 with
     | none=>unfold AxT; trivial
     | some r =>
      have key:=AvM (c:=c) m ht hb' hx (fun b=>MapKept.run_checkKey hkt ik b 9999) (fun en hl hr=>AgY (w:=w) hkt hik hk hl hr hf)
      cases r with
      | none=>exact key
      | some jv=>obtain⟨j,v'⟩:=jv; exact key
   .trivial
  .trivial
 .trivial
theorem AvN{t:TypeId}{x k:Operand}{o:Oper}{e:Env}{a:Act}(ho:o.op=.mapEntry t x k)(m:Mine h ρ sto w)(he:EnvOk h ρ sto e a) :
  Lm P h ρ sto w ((execOp a.eval o).run P w) (AoW P sto (ev e x) (ev e k) (P.underlying t)):=by
 have hx:=AaF he x;have hk:=AaF he k;have hrun:(execOp a.eval o).run P w=((Instr.mapEntry t (a.eval x) (a.eval k)).run P w).andThen fun v w'=>.ok (.value v) w':=by
  simp[execOp,ho]
 rw[hrun];generalize a.eval x=ux at *;generalize a.eval k=uk at *;generalize ev e k=ka at *;unfold AoW
 split
 .rename_i kt et ht
  split
  .trivial
  .rename_i d id hns hkt hm
   rw[hm]at hx;unfold AoV
   split
   .rename_i es hb
    have hb':=AeB hb
    cases hik:AeZ d ka with
    | false=>trivial
    | true =>
     simp only[lav];obtain⟨ik,rk⟩:=AjI hik hk;have hc:(Instr.checkKey false 10000 kt uk).run P w=.ok () w:=MapKept.run_checkKey hkt ik false 9999;obtain⟨g,en,clock,rfl,hg,o2,o3,o4,o5⟩:=AnI m hb' hx;unfold AoU
     split
     .rename_i i vo hf
      intro _;obtain⟨p,hp,y,z,f1,f3,f4,f5,f6,f7⟩:=AgY (w:=w) hkt hik hk o3 o4 hf;have f3':en[p]? = some y:=by simpa using f3
      have hrv:=o4 p z y f4 f3;subst f5;obtain⟨hs1,hs2⟩:=AkA (x:=(ka,z.2)) (AfQ hik) (i:=0) (p:=p) (j:=i) (by rw[lau]; exact hp);obtain⟨m',l'⟩:=AfR m hb' hg o2 (en':=en.modify p fun e=>{ e with key:=uk }) (clock':=clock) (es':=es.set i (ka,z.2)) (by rw[hs1]; simpa using o3) (by rw[hs1]; exact o4.set (fun y' hy'=>by
       rw[f3]at hy'; cases hy'; exact⟨rk,hrv.2⟩)) (o5.modify p _ (by simp) (hs2 0) (fun _ _=>rfl) (fun y' hy'=>by
       rw[f3]at hy'; cases hy'; exact f6.symm))
      have hborn:y.born=i:=by
       have:=o5.2.1 p y f3;rw[hp]at this;exact(Option.some.inj this).symm
      refine⟨_,_,_,_,.inl ?_,m',l',.tup [y.val,goInt (i:Nat)] [_,_] (.cons (hrv.2.mono l'.hle l'.keep) (.cons (.int _ _) .nil))⟩
      simp[Instr.mapEntry,run_underlying ht,MapKept.run_getObj_map o2,hc,f1,f3',f6,Instr.keyThatStays,f7,MapKept.run_setObj_map _ o2,Result.andThen,hborn]
     .rename_i hf
      intro hz;obtain⟨f1,f2⟩:=AgY (w:=w) hkt hik hk o3 o4 hf;obtain⟨zv,hz1,hz2⟩:=A3Z (w:=w) hz;have hla:lvs (es++[(ka,zval P et)])=lvs es++[(ka,zval P et)]:=by rw[AuS]; simp[lvs,AfQ hik]
      obtain⟨m',l'⟩:=AfR m hb' hg o2 (en':=en.push { key:=uk,val:=zv,born:=clock }) (clock':=clock+1) (es':=es++[(ka,zval P et)]) (by rw[hla]; simpa using o3) (by rw[hla]; exact o4.push o3 rk hz2) (o5.push o3 (x:=(ka,zval P et)) (AfQ hik) f2);have hcl:clock=es.length:=o5.1;refine⟨_,_,_,_,.inl ?_,m',l',.tup [zv,goInt (clock:Nat)] [_,_] (.cons hz2 (.cons (by rw[hcl]; exact .int _ _) .nil))⟩
      simp[Instr.mapEntry,run_underlying ht,MapKept.run_getObj_map o2,hc,f1,hz1,MapKept.run_setObj_map _ o2,Result.andThen]
     .trivial
   .trivial
  .trivial
 .trivial
theorem ArU{en:Array MapEntry}{clock n p:Nat}{es:List (AV×AV)}(h:EnOk en clock es)(hl:en.toList.length=(lvs es).length)(hp:(ixs 0 es)[p]? = some n):en.findIdx? (fun e=>(e.born:Int)==(n:Int))=some p:=by
 have hpl:p<en.toList.length:=by
  have:=(List.getElem?_eq_some_iff.1 hp).1;rw[AoQ]at this;omega
 rw[Array.findIdx?_eq_some_iff_getElem];refine⟨by simpa using hpl,?_,fun j hj=>?_⟩
 .have:=h.2.1 p _ (lad hpl)
  rw[hp]at this;have:=Option.some.inj this
  simp at this |-
  omega
 .have hj':j<en.toList.length:=by omega
  have:=h.2.1 j _ (lad hj');simp only[Array.getElem_toList]at this;simp only[lbx,Bool.not_eq_true,lbd,ne_eq];intro e;have e':en[j].born=n:=by omega
  rw[e']at this;have:=BiQ this hp;omega
theorem ApH{t:TypeId}{x n v:Operand}{o:Oper}{e:Env}{a:Act}(ho:o.op=.entryStore t x n v)(m:Mine h ρ sto w)(he:EnvOk h ρ sto e a) :
  Lm P h ρ sto w ((execOp a.eval o).run P w) (AoY sto (ev e x) (ev e n) (ev e v)):=by
 have hx:=AaF he x;have hn:=AaF he n;have hv:=AaF he v;have hrun:(execOp a.eval o).run P w=((Instr.entryStore t (a.eval x) (a.eval n) (a.eval v)).run P w).andThen fun _ w'=>.ok .skip w':=by
  simp[execOp,ho]
 rw[hrun];generalize a.eval x=ux at *;generalize a.eval n=un at *;generalize a.eval v=uv at *;generalize ev e v=va at *;unfold AoY
 split
 .rename_i id n hm hn'
  rw[hm]at hx;rw[hn']at hn;unfold AoX
  split
  .rename_i es hb
   have hb':=AeB hb;intro hp;obtain⟨g,en,clock,rfl,hg,o2,o3,o4,o5⟩:=AnI m hb' hx;have hlt':n.toNat<es.length:=by omega
   have hgd:es.getD n.toNat (.any,.any)=es[n.toNat]:=by rw[lbk,lad hlt',Option.getD_some]
   have hlv:=hp.2.2;rw[hgd]at hlv |-;obtain⟨p,hp1,hp2⟩:=A2T (i:=0) (lad hlt') hlv;rw[lau]at hp1;have hfi:=ArU o5 o3 hp1;have hni:((n.toNat:Nat):Int)=n:=by omega
   rw[hni]at hfi;obtain⟨hs1,hs2⟩:=AkA (x:=(es[n.toNat].1,va)) hlv (i:=0) (p:=p) (j:=n.toNat) (by rw[lau]; exact hp1);obtain⟨m',l'⟩:=AfR m hb' hg o2 (en':=en.modify p fun e=>{ e with val:=uv }) (clock':=clock) (es':=es.set n.toNat (es[n.toNat].1,va)) (by rw[hs1]; simpa using o3) (by rw[hs1]; exact o4.set (fun y' hy'=>by
    have h1:=o4 p es[n.toNat] y' hp2 hy';exact⟨h1.1,hv⟩)) (o5.modify _ _ (by simp) (hs2 0) (fun _ _=>rfl) (fun y' hy'=>rfl))
   refine⟨_,_,_,_,.inr ⟨?_,rfl⟩,m',l',.raw _⟩;have hi:=AaE hn;subst hi
   simp[Instr.entryStore,MapKept.run_getObj_map o2,asInt,asIntOf,hfi,MapKept.run_setObj_map _ o2,Result.andThen]
  .trivial
 .trivial
theorem BaP{t:TypeId}{x:Operand}{o:Oper}{e:Env}{a:Act}(ho:o.op=.range t x)(m:Mine h ρ sto w)(he:EnvOk h ρ sto e a) :
  Lm P h ρ sto w ((execOp a.eval o).run P w) (AxX sto (ev e x) (P.underlying t)):=by
 have hx:=AaF he x;have hrun:(execOp a.eval o).run P w=((Instr.range t (a.eval x)).run P w).andThen fun v w'=>.ok (.value v) w':=by
  simp[execOp,ho]
 rw[hrun];generalize a.eval x=ux at *;unfold AxX
 split
 .rename_i kt et ht
  split
  .rename_i mid hm
   rw[hm]at hx;unfold AuY
   split
   .rename_i es hb
    have hb':=AeB hb;intro _;obtain⟨g,en,clock,rfl,hg,o2,o3,o4,o5⟩:=AnI m hb' hx;have hcl:clock=es.length:=o5.1;have hmid:=(List.getElem?_eq_some_iff.1 hb').1;have hlf:Lf (upd ρ sto.length (some (w.heap.size,0))) (sto++[.it mid es.length []]) (.map (some g)) (.mp mid):=by
     refine⟨rfl,?_⟩;simp only[LfC,lat hmid,hb'];exact⟨g,by simp[upd,Nat.ne_of_lt hmid,hg],rfl⟩
    have hm:=m.push (.mapIter (some g) clock #[] clock) (.it mid es.length []) (some 0) ⟨w.heap.size,g,by simp[upd],by rw[hcl]; exact Go.heap_alloc_new w _,hlf,by simp,by simp⟩;refine⟨.pointer (some ⟨w.heap.size,0,none⟩),_,_,_,.inl ?_,hm.1,hm.2,.leaf ⟨rfl,?_⟩⟩
    .show _=Result.ok (Next.value (.pointer (some ⟨w.heap.size,0,none⟩))) _
     rw[run_range_map w t kt et g en clock ht o2];rfl
    .simp [LfC,upd]
   .trivial
  .trivial
 .trivial
theorem BiZ{id mid n:Nat}{seen:List Nat}(hb:sto.getD id .dead=.it mid n seen):sto[id]? = some (.it mid n seen):=by
 rw[lbk]at hb
 cases hq:sto[id]? with
 | none=>simp[hq]at hb
 | some b=>simp[hq]at hb; rw[hb]
theorem BjA(m:Mine h ρ sto w){id mid n:Nat}{seen:List Nat}{es:List (AV×AV)}{u:Value}{fl:Bool}(hb:sto[id]? = some (.it mid n seen))(hb2:sto[mid]? = some (.mp es))(r:RV h (Lf ρ sto) fl u (.mp id)) :
  ∃ r' g en clock,u=.pointer (some ⟨r',0,none⟩)/\ρ id=some (r',0)/\w.heap[r']? = some (.mapIter (some g) n seen.toArray n)/\seen.Nodup/\(∀ j∈seen,j<n)/\ρ mid=some (g,0)/\w.heap[g]? = some (.map en clock)/\en.toList.length=(lvs es).length/\EnRel h ρ sto (lvs es) en.toList/\EnOk en clock es:=by
 have hl:=(AgI r).2;simp only[LfC,hb]at hl;obtain⟨r',hr,rfl⟩:=hl;obtain⟨r2,g,i1,i2,i3,i4,i5⟩:=m.own id _ hb;have:r2=r':=by rw[hr]at i1; simpa using i1.symm
 subst this;have i3':=i3.2;simp only[LfC,hb2]at i3';obtain⟨g',hg,e⟩:=i3';have:g'=g:=by simpa using e.symm
 subst this;obtain⟨g2,en,clock,o1,o2,o3,o4,o5⟩:=m.own mid _ hb2;have:g2=g':=by rw[hg]at o1; simpa using o1.symm
 subst this;exact⟨r2,g2,en,clock,rfl,hr,i2,i4,i5,hg,o2,o3,o4,o5⟩
theorem BaQ{x:Operand}{o:Oper}{e:Env}{a:Act}(ho:o.op=.entry x)(m:Mine h ρ sto w)(he:EnvOk h ρ sto e a) :
  Lm P h ρ sto w ((execOp a.eval o).run P w) (AxY sto (ev e x)):=by
 have hx:=AaF he x;have hrun:(execOp a.eval o).run P w=((Instr.entry (a.eval x)).run P w).andThen fun v w'=>.ok (.value v) w':=by
  simp[execOp,ho]
 rw[hrun];generalize a.eval x=ux at *;unfold AxY
 split
 .rename_i id hm
  rw[hm]at hx;unfold AvA
  split
  .rename_i mid n seen hb
   unfold AuZ
   split
   .rename_i es hb2
    intro hp;obtain⟨hne,hn,hlv⟩:=hp;obtain⟨r',g,en,clock,rfl,hr,i2,i4,i5,hg,o2,o3,o4,o5⟩:=BjA m (BiZ hb) (AeB hb2) hx;have hcl:clock=n:=by rw[o5.1,hn]
    obtain⟨l0,j',hs⟩:∃ l0 j,seen=l0++[j]:=⟨seen.dropLast,seen.getLast hne,(List.dropLast_concat_getLast hne).symm⟩;have hj:j'<n:=i5 j' (by rw[hs]; simp);have hjs:j'<es.length:=by omega
    have hgl:seen.getLastD 0=j':=by rw[hs]; simp
    rw[hgl,lbk,lad hjs,Option.getD_some]at hlv;obtain⟨j,hp1,hp2⟩:=A2T (i:=0) (lad hjs) hlv;rw[lau]at hp1;have hje:j<en.toList.length:=by
     have:=(List.getElem?_eq_some_iff.1 hp2).1;omega
    have hborn:en.toList[j].born=j':=by
     have:=o5.2.1 j _ (lad hje);rw[hp1]at this;exact(Option.some.inj this).symm
    have hnod:(en.toList.map (·.born)).Nodup:=by
     have:en.toList.map (·.born)=ixs 0 es:=by
      apply List.ext_getElem (by rw[AoQ]; simpa using o3);intro i h1 h2;simp only[List.getElem_map];have h1':i<en.toList.length:=by simpa using h1
      have:=o5.2.1 i _ (lad h1');rw[lad h2]at this;exact(Option.some.inj this).symm
     rw[this];exact(AjZ es 0).1.imp fun h=>Nat.ne_of_lt h
    have hrel:=o4 j _ _ hp2 (lad hje);rw[hgl,lbk,lad hjs,Option.getD_some];refine AaA m (u:=.tuple #[en.toList[j].key,en.toList[j].val]) ?_ (.tup [_,_] [_,_] (.cons (hrel.1.thaw (fun _ _ _ x=>x)) (.cons hrel.2 .nil)));have hrun2:=run_entry_at (P:=P) w r' g n l0.toArray en clock en.toList[j] (by rw[i2,hs,hcl,hborn]; simp) o2 (lai hje) hnod;rw[hrun2];rfl
   .trivial
  .trivial
 .trivial
end
