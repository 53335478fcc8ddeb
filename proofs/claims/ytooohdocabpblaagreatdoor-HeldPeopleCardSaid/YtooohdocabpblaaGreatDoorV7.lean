/- Maps of one's own: made, written, read. -/
import Derived.Test.YtooohdocabpblaaGreatDoorV6
import Derived.WideMake
import Derived.Laws.StructEq
import Derived.Laws.Cover3
import Derived.Maps.RangeRun
set_option linter.all false
namespace Go.Av
open RowKit
variable [Tr]
section
variable {h:Mem}{ρ:Own}{sto:LB}{w:World}{P:Program}
theorem RL.drop1{fl:Bool}{L:Value->AV->Prop}{vs:List Value}{i:Nat}{x:AV}{xs:LA}(r:RL h L fl (vs.drop i) (x::xs)):∃ v,vs[i]? = some v/\RV h L fl v x/\RL h L fl (vs.drop (i+1)) xs:=by
 generalize hd:vs.drop i=ds at r
 cases r with
 | cons r1 r2 =>
  rename_i v ds';have h1:vs[i]? = some v:=by
   have:=congrArg (·[0]?) hd
   grind
  have h2:vs.drop (i+1)=ds':=by
   rw[<- List.drop_drop,hd]; rfl
  grind
theorem AcW{t:TypeId}{cs:Array Value}{i:Nat}{v:Value}{b:Bool}{x y:AV}(hl:leafEq (P.underlying t) x y=some b)(hv:cs[i]? = some v):(part t cs i).run P w=.ok v w:=by
 cases hq:P.underlying t with
 | none=>grind[leafEq]
 | some d =>
  have hr:isRow (some d)=false:=by
   cases d <;> first|rfl|grind[leafEq]
  simp_all[part,AiF]
theorem AgD{t:TypeId}{d:Nat}{u v:Value}{x y:AV}{b:Bool}{L:Value->AV->Prop}{fl:Bool}(hl:leafEq (P.underlying t) x y=some b)(ru:RV h (Lf ρ sto) false u x)(rv:RV h (Lf ρ sto) false v y) :
  (Op.equalIn (d+1) t u v).run P w=.ok b w:=by
 unfold leafEq at hl
 split at hl
 .rw [AaS ru,AaS rv]
  grind[AgU]
 .split at hl
  .rw [AaE ru,AaE rv]
   grind[run_equalIn_int]
  grind
 .rename_i p q hd
  rw[AaQ ru,AaQ rv,run_equalIn_string w d t _ _ hd]
  simp_all
 grind
theorem AdE{vs us:List Value}{d:Nat}:∀ {fs:List Field}{i:Nat}{xs ys:LA}{b:Bool},offsOk i fs=true->RL h (Lf ρ sto) false (vs.drop i) xs->RL h (Lf ρ sto) false (us.drop i) ys->eqFs P fs xs ys=some b ->
  (Op.eqFields (d+1) vs.toArray us.toArray fs).run P w=.ok b w
 | [],i,xs,ys,b,_,_,_,hb=>by
  simp_all[eqFs,Op.eqFields]
 | f::fs,i,[],ys,b,_,_,_,hb=>by grind[eqFs]
 | f::fs,i,_::_,[],b,_,_,_,hb=>by grind[eqFs]
 | f::fs,i,x::xs,y::ys,b,ho,r1,r2,hb=>by
  simp only[offsOk,lac,bne_iff_ne,ne_eq,beq_iff_eq]at ho;obtain⟨o1,o2,o3⟩:=ho;obtain⟨v,v1,v2,v3⟩:=r1.drop1;obtain⟨u,u1,u2,u3⟩:=r2.drop1;rw[eqFs]at hb
  cases h1:leafEq (P.underlying f.type) x y with
  | none=>grind[bothB]
  | some p =>
   cases h2:eqFs P fs xs ys with
   | none=>grind[bothB]
   | some q =>
    rw[h1,h2]at hb;simp only[bothB,lad]at hb;have ih:=AdE (d:=d) o3 v3 u3 h2;unfold Op.eqFields;rw[if_pos o1,o2];rw[Sem.run_bind,AcW h1 (by simpa using v1)];simp only[Result.andThen_ok];rw[Sem.run_bind,AcW h1 (by simpa using u1)];simp only[Result.andThen_ok];rw[Sem.run_bind,AgD (L:=Lf ρ sto) (fl:=false) h1 v2 u2]
    cases p<;>simp_all
theorem AvP{vs us:List Value}{d:Nat}{xs ys:LA}(r1:RL h (Lf ρ sto) false vs xs)(r2:RL h (Lf ρ sto) false us ys):∀ {fs:List Field}{b:Bool},fs.all (AuV P)=true->eqFN P xs ys fs=some b ->
  (Op.eqFields (d+2) vs.toArray us.toArray fs).run P w=.ok b w
 | [],b,_,hb=>by
  simp_all[eqFN,Op.eqFields]
 | f::fs,b,ho,hb=>by
  rw[lay,lac]at ho;obtain⟨o1,o2⟩:=ho;unfold AuV at o1
  simp at o1
  obtain⟨o1,o3⟩:=o1;rw[eqFN]at hb
  cases h1:eqF1 P xs ys f (P.underlying f.type)with
  | none=>grind[bothB]
  | some p =>
   cases h2:eqFN P xs ys fs with
   | none=>grind[bothB]
   | some q =>
    rw[h1,h2]at hb;simp only[bothB,lad]at hb;have ih:=AvP (d:=d) r1 r2 o2 h2;have key:∃ u v,(part f.type vs.toArray f.offset).run P w=.ok u w/\(part f.type us.toArray f.offset).run P w=.ok v w/\(Op.equalIn (d+2) f.type u v).run P w=.ok p w:=by
     cases hd:P.underlying f.type with
     | none=>grind[eqF1]
     | some D =>
      have hh:has (P.underlying f.type):=by rw[hd]; rfl
      by_cases hs:∃ gs,D=.struct gs
      .obtain ⟨gs,rfl⟩:=hs
       rw[hd]at h1 o3;simp only[eqF1]at h1
       simp at o3
       cases hb:(decide (f.offset+tsize P f.type<=xs.length)&&decide (f.offset+tsize P f.type<=ys.length))with
       | false=>grind
       | true =>
        rw[hb]at h1
        simp at hb
        obtain⟨u,u1,u2⟩:=AcE hh r1 (by rw[hd]; exact hb.1);obtain⟨v,v1,v2⟩:=AcE hh r2 (by rw[hd]; exact hb.2);rw[hd]at u2 v2;simp only[isRow,xpart,lai]at u2 v2;obtain⟨us',rfl,ru⟩:=inv_agg u2;obtain⟨vs',rfl,rv⟩:=inv_agg v2;refine⟨_,_,u1,v1,?_⟩;have hfo:P.fieldsOf f.type=gs:=by grind[Program.fieldsOf]
        rw[run_equalIn_struct w (d+1) f.type _ _ (by grind) o3.1,hfo];exact AdE o3.2 (by simpa using ru) (by grind) h1
      .have hl:eqF1 P xs ys f (some D)=bif decide (f.offset<xs.length)&&decide (f.offset<ys.length) then leafEq (some D) (xs.getD f.offset .any) (ys.getD f.offset .any) else none:=by
        cases D with
        | struct gs=>grind
        | _=>rfl
       rw[hd,hl]at h1
       cases hb:(decide (f.offset<xs.length)&&decide (f.offset<ys.length))with
       | false=>grind
       | true =>
        rw[hb]at h1
        simp at h1
        simp at hb
        have hr:isRow (some D)=false:=by
         cases D <;> first|rfl|grind[leafEq]
        obtain⟨u,u1,u2⟩:=AcE hh r1 (by rw[hd,hr]; exact hb.1);obtain⟨v,v1,v2⟩:=AcE hh r2 (by rw[hd,hr]; exact hb.2);rw[hd,hr]at u2 v2;simp only[xpart,lap]at u2 v2;exact⟨u,v,u1,v1,AgD (L:=Lf ρ sto) (fl:=false) (by grind) u2 v2⟩
    obtain⟨u,v,k1,k2,k3⟩:=key;unfold Op.eqFields
    cases p<;>simp_all
theorem ba_beq(s t:LU):((⟨s.toArray⟩:ByteArray)==⟨t.toArray⟩)=(s==t):=by
 show(s.toArray==t.toArray)=(s==t)
 simp
theorem A3S{t:TypeId}{x:Operand}{o:Oper}{e:Env}{a:Act}(ho:o.op=.box t x)(m:Mine h ρ sto w)(he:EnvOk h ρ sto e a) :
  Lc P h ρ sto w ((execOp a.eval o).run P w) (AtB (isRow (P.underlying t)) (ev e x)):=by
 have hx:=AaF he x;have hrun:(execOp a.eval o).run P w=.ok (.value (.pointer (some ⟨w.heap.size,0,none⟩))) (w.alloc (.cells (a.eval x).cells t)):=by
  simp_all[execOp,Instr.box,newVar,newRow]
 rw[hrun];generalize a.eval x=u at *;have key:∀ (y:AV) (vs:List Value) (l:LA),u.cells=vs.toArray->cellsOf y=l->RL h (Lf ρ sto) false vs l->l.all frozen=true->l.all one=true->0<l.length ->
   Okv h ρ sto w (.ok (.value (.pointer (some ⟨w.heap.size,0,none⟩))) (w.alloc (.cells u.cells t))) (.pin l.length [y] 0 0) sto:=by
  intro y vs l hu hy rl hf h1 hl;have hone:∀ v∈vs,v.oneCell'=true:=by
   intro v hv;obtain⟨k,hk,e⟩:=List.getElem_of_mem hv;have hkl:k<l.length:=by have:=rl.length; omega
   obtain⟨v',e1,r1⟩:=rl.get (las hkl)
   grind[AvH]
  obtain⟨m',l'⟩:=m.freezeNew vs t hone;rw[hu];refine⟨_,_,_,_,.inl rfl,m',l',?_⟩;have:=RV.pin (fl:=false) w.heap.size 0 l.length [y] vs 0 0 (by
   simp only[flat,lbn,hy];exact(AbT rl hf).mono l'.hle (fun _ _ x=>x)) (by grind) (fun k v hk=>by grind[Mem.add]) (by simp)
  grind
 unfold AtB
 split
 .rename_i l h1 h2
  rw[h2]at hx;obtain⟨vs,rfl,rl⟩:=inv_agg hx;intro hp;exact key _ vs l (by simp[Value.cells]) rfl rl hp.2.1 hp.2.2 hp.1
 .cases hv:one (ev e x)with
  | false=>trivial
  | true =>
   cases hf:frozen (ev e x)with
   | false=>trivial
   | true =>
    have hc:=AhD hx (by grind[AaI]);rw[AaI hv]at hc;exact key _ _ _ (by simp) (AaI hv) hc (by grind) (by grind) (by simp)
 .trivial
theorem A3T{b:Bool}{t:TypeId}{x:Operand}{o:Oper}{e:Env}{a:Act}(ho:o.op=.box t x)(m:Mine h ρ sto w)(he:EnvOk h ρ sto e a) :
  Lc P h ρ sto w ((execOp a.eval o).run P w) (AuW b (isRow (P.underlying t)) sto (ev e x)):=by
 cases b with
 | true=>exact A3S ho m he
 | false=>exact A6L ho m he
theorem AlN{P:Program}:∀ {a b:List TypeId}{xs ys:LA}{c:Bool},eqLs P (a++b) xs ys=some c->∃ p q,eqLs P a (xs.take a.length) (ys.take a.length)=some p/\eqLs P b (xs.drop a.length) (ys.drop a.length)=some q/\c=(p&&q)/\a.length<=xs.length/\a.length<=ys.length
 | [],b,xs,ys,c,h=>⟨true,c,by simp[eqLs],by grind,by simp,Nat.zero_le _,Nat.zero_le _⟩
 | t::a,b,[],ys,c,h=>by grind[eqLs]
 | t::a,b,_::_,[],c,h=>by grind[eqLs]
 | t::a,b,x::xs,y::ys,c,h=>by
  simp only[lah,eqLs]at h
  cases h1:leafEq (P.underlying t) x y with
  | none=>rw[h1]at h; simp[bothB]at h
  | some r =>
   cases h2:eqLs P (a++b) xs ys with
   | none=>rw[h1,h2]at h; simp[bothB]at h
   | some s =>
    rw[h1,h2]at h;simp only[bothB,lad]at h;obtain⟨p,q,k1,k2,k3,k4,k5⟩:=AlN h2;refine⟨r&&p,q,?_,by simpa using k2,by rw[<- h,k3,Bool.and_assoc],by simpa using k4,by simpa using k5⟩;simp only[lan,List.take_succ_cons,eqLs,h1,k1,bothB]
theorem AiN{P:Program}{t:TypeId}(h:∀ fs,P.underlying t≠some (.struct fs)):∀ n,leafTs P n t=[t]
 | 0=>rfl
 | n+1=>by
  grind[leafTs]
theorem A2C{d:Nat}:∀ (n:Nat){t:TypeId}{vs us:List Value}{xs ys:LA}{fs:Array Field}{b:Bool},P.underlying t=some (.struct fs)->shapeT P n t=true->RL h (Lf ρ sto) false vs xs->RL h (Lf ρ sto) false us ys->eqLs P (leafTs P n t) xs ys=some b ->
  (Op.equalIn (d+n+1) t (.agg vs.toArray) (.agg us.toArray)).run P w=.ok b w
 | 0,t,vs,us,xs,ys,fs,b,ht,hs,_,_,_=>by grind[shapeT]
 | n+1,t,vs,us,xs,ys,fs,b,ht,hs,r1,r2,hb=>by
  simp only[shapeT,ht,lac,laz]at hs;obtain⟨hs1,hs2⟩:=hs;simp only[leafTs,ht]at hb;have hfo:P.fieldsOf t=fs:=by grind[Program.fieldsOf]
  rw[show d+(n+1)+1=(d+n+1)+1 by omega,run_equalIn_struct w (d+n+1) t _ _ (by grind) hs1,hfo];have key:∀ (fl:List Field) (i:Nat) (b:Bool),offsG P (shapeT P n) (leafTs P n) i fl=true->eqLs P (fl.flatMap fun f=>leafTs P n f.type) (xs.drop i) (ys.drop i)=some b ->
    (Op.eqFields (d+n+1) vs.toArray us.toArray fl).run P w=.ok b w:=by
   intro fl
   induction fl with
   | nil =>
    intro i b _ hb;have:b=true:=by
     grind[eqLs]
    simp_all[Op.eqFields]
   | cons f fl ih =>
    intro i b ho hb;simp only[offsG,lac,bne_iff_ne,ne_eq,beq_iff_eq]at ho;obtain⟨o1,o2,o3,⟨o4,o6⟩,o5⟩:=ho
    simp at hb
    obtain⟨p,q,k1,k2,k3,k4,k5⟩:=AlN hb;rw[List.drop_drop]at k2;rw[List.drop_drop]at k2;have ih:=ih (i+(leafTs P n f.type).length) q o5 k2;have key:∃ u v,(part f.type vs.toArray f.offset).run P w=.ok u w/\(part f.type us.toArray f.offset).run P w=.ok v w/\(Op.equalIn (d+n+1) f.type u v).run P w=.ok p w:=by
     rw[o2]
     by_cases hst:∃ gs,P.underlying f.type=some (.struct gs)
     .obtain ⟨gs,hd⟩:=hst
      have hh:has (P.underlying f.type):=by rw[hd]; rfl
      simp at k4 k5
      obtain⟨u,u1,u2⟩:=AcE hh r1 (off:=i) (by grind[xpartOk]);obtain⟨v,v1,v2⟩:=AcE hh r2 (off:=i) (by grind[xpartOk]);rw[hd]at u2 v2;simp only[isRow,xpart,lai]at u2 v2;obtain⟨us',rfl,ru⟩:=inv_agg u2;obtain⟨vs',rfl,rv⟩:=inv_agg v2;rw[o4]at ru rv;exact⟨_,_,u1,v1,by simpa using A2C n hd o3 ru rv k1⟩
     .have hlf:=AiN (fun gs e=>hst ⟨gs,e⟩) n
      rw[hlf]at k1 k4 k5
      simp at k1 k4 k5
      have hx:xs.drop i=xs[i]'(by omega)::xs.drop (i+1):=List.drop_eq_getElem_cons (by omega);have hy:ys.drop i=ys[i]'(by omega)::ys.drop (i+1):=List.drop_eq_getElem_cons (by omega);rw[hx,hy]at k1;simp only[List.take_succ_cons,List.take_zero,eqLs]at k1;obtain⟨v,v1,v2,v3⟩:=RL.drop1 (by rw[<- hx]; exact r1.drop i);obtain⟨u,u1,u2,u3⟩:=RL.drop1 (by rw[<- hy]; exact r2.drop i)
      cases hl:leafEq (P.underlying f.type) (xs[i]'(by omega)) (ys[i]'(by omega))with
      | none=>grind[bothB]
      | some c =>
       rw[hl]at k1;simp only[bothB,lad,lbg]at k1;subst k1;exact⟨v,u,AcW hl (by grind),AcW hl (by grind),AgD (L:=Lf ρ sto) (fl:=false) hl v2 u2⟩
    obtain⟨u,v,u1,v1,hq⟩:=key;unfold Op.eqFields
    cases p<;>simp_all
  grind
theorem AtM{t:TypeId}{o:Oper}{a:Act}(ho:o.op=.makeMap t none)(m:Mine h ρ sto w):Lc P h ρ sto w ((execOp a.eval o).run P w) (ArN sto):=by
 intro _;have hr:(execOp a.eval o).run P w=.ok (.value (.map (some w.heap.size))) (w.alloc (.map #[] 0)):=by
  simp_all[execOp,run_makeMap_plain]
 have hm:=m.push (.map #[] 0) (.mp []) (some 0) ⟨w.heap.size,#[],0,by simp[upd],(MapKept.heap_alloc w _).1,rfl,by grind,by simp[EnOk]⟩;exact⟨_,_,_,_,.inl hr,hm.1,hm.2,.leaf ⟨rfl,by grind[LfC,upd]⟩⟩
theorem AhE{d:TypeDesc}{k:AV}{u:Value}{fl:Bool}(hk:AdA d k=true)(r:RV h (Lf ρ sto) fl u k):MapKept.IsKey d u/\∀ {h':Mem}{Lf':Value->AV->Prop}{f:Bool},RV h' Lf' f u k:=by
 cases k <;> cases d <;> simp[AdA]at hk
 .subst hk
  rw[AaE r];exact⟨rfl,.int _ _⟩
 .rw [AaS r]
  exact⟨trivial,.bool _⟩
 .rw [AaQ r]
  exact⟨trivial,.str _⟩
theorem AlO{d:TypeDesc}{k k':AV}{u u':Value}{fl fl':Bool}{b:Bool}(hk:keyEq d k k'=some b)(hlv:liveK k'=true)(r:RV h (Lf ρ sto) fl u k)(r':RV h (Lf ρ sto) fl' u' k'):Instr.sameNow d u u'=some b/\(b=true->Instr.sameBits 10000 u' u=true):=by
 cases d <;> cases k <;> cases k' <;> (try(simp[liveK]at hlv; done)) <;> simp[keyEq]at hk
 .subst hk
  rw[AaS r,AaS r'];exact⟨rfl,fun hb=>by grind[Instr.sameBits]⟩
 .rename_i kd k1 n1 k2 n2
  rw[AaE r,AaE r']
  grind[Instr.sameNow,Instr.sameBits]
 .subst hk
  rename_i s1 s2;rw[AaQ r,AaQ r']
  grind[Instr.sameNow,ba_beq,Instr.sameBits]
theorem ArQ{d:TypeDesc}{k:AV}{u:Value}{fl:Bool}(r:RV h (Lf ρ sto) fl u k):∀ {es:List (AV×AV)}{en:List MapEntry}{i:Nat}{x:Option (Nat×AV)},en.length=es.length ->
  (∀ (j:Nat) (x:AV×AV) (y:MapEntry),es[j]? = some x->en[j]? = some y->RV h (Lf ρ sto) true y.key x.1/\RV h (Lf ρ sto) false y.val x.2)->(∀ x∈es,liveK x.1=true)->mfind d k es i=some x ->
  match x with
  | none=>Instr.findNow d u en i=some none
  | some (j,v)=>∃ (y:MapEntry) (z:AV×AV),Instr.findNow d u en i=some (some (j,y.val))/\i<=j/\en[j-i]? = some y/\es[j-i]? = some z/\z.2=v/\Instr.sameBits 10000 y.key u=true
 | [],en,i,x,hl,_,_,hx=>by
  simp only[mfind,lad]at hx;subst hx;have:en=[]:=lbe (by omega);subst this; rfl
 | z::es,[],i,x,hl,_,_,_=>by grind
 | z::es,y::en,i,x,hl,hr,hv,hx=>by
  have h0:=hr 0 z y rfl rfl;have hz:=hv z (by simp);simp only[mfind]at hx
  split at hx
  .rename_i hq
   obtain⟨s1,s2⟩:=AlO hq hz r h0.1
   simp at hx
   subst hx;exact⟨y,z,by simp[Instr.findNow,s1],lal _,by simp,by simp,rfl,s2 rfl⟩
  .rename_i hq
   obtain⟨s1,_⟩:=AlO hq hz r h0.1;have ih:=ArQ r (by simpa using hl) (fun j a b h1 h2=>hr (j+1) a b h1 h2) (fun x hx=>hv x (by simp[hx])) hx
   cases x with
   | none=>simpa[Instr.findNow,s1]using ih
   | some jv =>
    obtain⟨j,v⟩:=jv;obtain⟨y',z',i1,i2,i3,i4,i5,i6⟩:=ih;have e:j-i=(j-(i+1))+1:=by omega
    exact⟨y',z',by simpa[Instr.findNow,s1]using i1,by omega,by rw[e]; simpa using i3,by rw[e]; simpa using i4,i5,i6⟩
  .cases hx
theorem AtN{d:TypeDesc}{k k':AV}{u:Value}{fl fl':Bool}(hk:keyEq d k k'=some false)(hlv:liveK k'=true)(r:RV h (Lf ρ sto) fl u k)(r':RV h (Lf ρ sto) fl' u k'):False:=by
 have h1:=(AlO hk hlv r r').1
 cases d <;> cases k <;> cases k' <;> (try(simp[liveK]at hlv; done)) <;> simp[keyEq]at hk
 .have e1:=AaS r; have e2:=AaS r'
  grind
 .have e1:=AaE r; have e2:=AaE r'
  grind
 .have e1:=AaQ r; have e2:=AaQ r'
  grind
theorem ArR{d:TypeDesc}{k:AV}{u:Value}{fl:Bool}(r:RV h (Lf ρ sto) fl u k):∀ {es:List (AV×AV)}{en:List MapEntry}{i:Nat},en.length=es.length ->
  (∀ (j:Nat) (x:AV×AV) (y:MapEntry),es[j]? = some x->en[j]? = some y->RV h (Lf ρ sto) true y.key x.1/\RV h (Lf ρ sto) false y.val x.2)->(∀ x∈es,liveK x.1=true)->mfind d k es i=some none->∀ y∈en,y.key≠u
 | [],en,i,hl,_,_,_=>by
  grind
 | z::es,[],i,hl,_,_,_=>by grind
 | z::es,y::en,i,hl,hr,hv,hx=>by
  have h0:=hr 0 z y rfl rfl;have hz:=hv z (by simp);simp only[mfind]at hx
  split at hx
  .cases hx
  .rename_i hq
   have ih:=ArR r (by simpa using hl) (fun j a b h1 h2=>hr (j+1) a b h1 h2) (fun x hx=>hv x (by simp[hx])) hx;intro y' hy' e
   rcases List.mem_cons.1 hy' with rfl|hy'
   .rw [e]at h0
    exact AtN hq hz r h0.1
   .exact ih y' hy' e
  .cases hx
theorem EnOk.push{en:Array MapEntry}{clock:Nat}{es:List (AV×AV)}(h:EnOk en clock es)(hl:en.toList.length=(lvs es).length){k v:Value}{x:AV×AV}(hx:liveK x.1=true)(hk:∀ y∈en.toList,y.key≠k):EnOk (en.push { key:=k,val:=v,born:=clock }) (clock+1) (es++[x]):=by
 obtain⟨h1,h2,h3⟩:=h;have hix:ixs 0 (es++[x])=ixs 0 es++[es.length]:=by grind[ixs_app,ixs]
 refine⟨by simp[h1],fun j y hy=>?_,?_⟩<;>grind[AlC]
theorem EnOk.modify{en:Array MapEntry}{clock:Nat}{es es':List (AV×AV)}(h:EnOk en clock es)(i:Nat)(f:MapEntry->MapEntry)(hl:es'.length=es.length)(hix:ixs 0 es'=ixs 0 es)(hb:∀ y∈en.toList,(f y).born=y.born)(hk:∀ y,en.toList[i]? = some y->(f y).key=y.key):EnOk (en.modify i f) clock es':=by
 obtain⟨h1,h2,h3⟩:=h;have hget:∀ j,(en.modify i f).toList[j]? = if i=j then en.toList[j]?.map f else en.toList[j]?:=by
  intro j;rw[lbo,Array.getElem?_modify]
  split <;> simp
 refine⟨by rw[hl]; exact h1,fun j y hy=>?_,?_⟩
 .rw [hix]
  rw[hget]at hy
  split at hy
  .obtain ⟨z,hz,rfl⟩:=Option.map_eq_some_iff.1 hy
   rw[hb z (laj hz)];exact h2 j z hz
  .exact h2 j y hy
 .have e:(en.modify i f).toList.map (·.key)=en.toList.map (·.key):=by
   apply List.ext_getElem?;intro j;rw[lbh,lbh,hget]
   split
   .rename_i hij
    subst hij
    cases hq:en.toList[i]? with
    | none=>rfl
    | some y=>simp only[lbr]; rw[hk y hq]
   .rfl
  have h3':(en.toList.map (·.key)).Pairwise (·≠·):=by rw[List.pairwise_map]; exact h3
  rw[<- e,List.pairwise_map]at h3';exact h3'
theorem EnOk.erase{en:Array MapEntry}{clock:Nat}{es es':List (AV×AV)}(h:EnOk en clock es)(p:Nat)(hl:es'.length=es.length)(hix:ixs 0 es'=(ixs 0 es).eraseIdx p):EnOk (en.eraseIdxIfInBounds p) clock es':=by
 obtain⟨h1,h2,h3⟩:=h;have e:(en.eraseIdxIfInBounds p).toList=en.toList.eraseIdx p:=by simp
 refine⟨by rw[hl]; exact h1,fun j y hy=>?_,?_⟩
 .rw [e,List.getElem?_eraseIdx]at hy
  rw[hix,List.getElem?_eraseIdx]
  split at hy
  .rename_i hj
   rw[if_pos hj];exact h2 j y hy
  .rename_i hj
   rw[if_neg hj];exact h2 (j+1) y hy
 .rw [e]
  exact h3.sublist (List.eraseIdx_sublist _ _)
theorem AiO{d:Option TypeDesc}{x y:AV}{b:Bool}{u v:Value}{fl fl':Bool}(hl:leafEq d x y=some b)(r:RV h (Lf ρ sto) fl u x)(r':RV h (Lf ρ sto) fl' v y):(b=true->u=v/\Instr.sameBits 9999 u v=true)/\(u=v->b=true):=by
 unfold leafEq at hl
 split at hl
 .cases hl
  rw[AaS r,AaS r'];exact⟨fun hb=>by have:=beq_iff_eq.1 hb; subst this; exact⟨rfl,by simp[Instr.sameBits]⟩,fun e=>by simpa using e⟩
 .split at hl
  .rename_i hk
   subst hk
   cases hl
   rw[AaE r,AaE r'];exact⟨fun hb=>by have:=beq_iff_eq.1 hb; subst this; exact⟨rfl,by simp[Instr.sameBits]⟩,fun e=>by simpa using e⟩
  .cases hl
 .cases hl
  rw[AaQ r,AaQ r'];exact⟨fun hb=>by have:=beq_iff_eq.1 hb; subst this; exact⟨rfl,by simp only[Instr.sameBits,ba_beq,beq_self_eq_true]⟩,fun e=>by simpa using e⟩
 .cases hl
theorem AnQ:∀ {fs:List Field}{xs ys:LA}{vs us:List Value}{b:Bool}{fl fl':Bool},RL h (Lf ρ sto) fl vs xs->RL h (Lf ρ sto) fl' us ys->xs.length=fs.length->ys.length=fs.length->eqFs P fs xs ys=some b ->
  (b=true->vs=us/\(vs.zip us).all (fun p=>Instr.sameBits 9999 p.1 p.2)=true)/\(vs=us->b=true)
 | [],[],[],vs,us,b,_,_,r1,r2,_,_,hb=>by
  cases r1; cases r2
  simp only[eqFs,lad]at hb;subst hb
  simp
 | f::fs,[],ys,_,_,b,_,_,_,_,h1,_,_=>by simp at h1
 | [],_::_,ys,_,_,b,_,_,_,_,h1,_,_=>by simp at h1
 | [],[],_::_,_,_,b,_,_,_,_,_,h2,_=>by simp at h2
 | f::fs,x::xs,[],_,_,b,_,_,_,_,_,h2,_=>by simp at h2
 | f::fs,x::xs,y::ys,vs,us,b,_,_,r1,r2,h1,h2,hb=>by
  cases r1 with
  | @cons _ v _ vs _ a1 a2 =>
   cases r2 with
   | @cons _ u _ us _ b1 b2 =>
    rw[eqFs]at hb
    cases q1:leafEq (P.underlying f.type) x y with
    | none=>rw[q1]at hb; simp[bothB]at hb
    | some p =>
     cases q2:eqFs P fs xs ys with
     | none=>rw[q1,q2]at hb; simp[bothB]at hb
     | some q =>
      rw[q1,q2]at hb;simp only[bothB,lad]at hb;subst hb;have l1:=AiO q1 a1 b1;have l2:=AnQ (fs:=fs) a2 b2 (by simpa using h1) (by simpa using h2) q2;refine⟨fun hh=>?_,fun e=>?_⟩
      .simp only [lac]at hh
       obtain⟨e1,e2⟩:=l1.1 hh.1;obtain⟨e3,e4⟩:=l2.1 hh.2;subst e1 e3;refine⟨rfl,?_⟩;simp only[List.zip_cons_cons,lay,e2,e4,Bool.and_self]
      .simp only [List.cons.injEq]at e
       simp[l1.2 e.1,l2.2 e.2]
def KF(P:Program)(kt:TypeId)(w:World)(es:List (AV×AV))(en:List MapEntry)(u:Value):Option (Nat×AV)->Prop
 | none=>(Instr.findKey kt u en).run P w=.ok none w/\∀ y∈en,y.key≠u
 | some (j,v)=>∃ (y:MapEntry) (z:AV×AV),(Instr.findKey kt u en).run P w=.ok (some (j,y.val)) w/\en[j]? = some y/\es[j]? = some z/\z.2=v/\y.key=u/\Instr.sameBits 10000 u u=true
def EnRel(h:Mem)(ρ:Own)(sto:LB)(es:List (AV×AV))(en:List MapEntry):Prop :=
 ∀ (j:Nat) (x:AV×AV) (y:MapEntry),es[j]? = some x->en[j]? = some y->RV h (Lf ρ sto) true y.key x.1/\RV h (Lf ρ sto) false y.val x.2
def KFx(P:Program)(kt:TypeId)(w:World)(es:List (AV×AV))(en:List MapEntry)(u:Value):Option (Nat×AV)->Prop
 | none=>KF P kt w (lvs es) en u none
 | some (j,v)=>∃ p,(ixs 0 es)[p]? = some j/\KF P kt w (lvs es) en u (some (p,v))
theorem AiP{d:TypeDesc}{k:AV}(hk:AdA d k=true):∀ {es:List (AV×AV)}{i:Nat}{x:Option (Nat×AV)},mfind d k es i=some x ->
  match x with
  | none=>∀ i',mfind d k (lvs es) i'=some none
  | some (j,v)=>∃ p,(∀ i',mfind d k (lvs es) i'=some (some (i'+p,v)))/\(ixs i es)[p]? = some j
 | [],i,x,h=>by
  simp only[mfind,lad]at h;subst h;exact fun _=>rfl
 | z::es,i,x,h=>by
  cases hl:liveK z.1 with
  | false =>
   obtain⟨a,b⟩:=z;have hq:keyEq d k a=some false:=by
    cases a <;> simp[liveK]at hl
    cases d <;> cases k <;> simp[AdA]at hk <;> rfl
   simp only[mfind,hq]at h;have ih:=AiP hk h;simp only[lvs,ixs,hl,lap];exact ih
  | true =>
   simp only[mfind]at h;simp only[lvs,ixs,hl,lai]
   split at h
   .rename_i hq
    simp only[lad]at h;subst h;exact⟨0,fun i'=>by simp[mfind,hq],rfl⟩
   .rename_i hq
    have ih:=AiP hk h
    cases x with
    | none=>exact fun i'=>by simp only[mfind,hq]; exact ih _
    | some jv =>
     obtain⟨j,v⟩:=jv;obtain⟨p,h1,h2⟩:=ih;exact⟨p+1,fun i'=>by simp only[mfind,hq]; rw[h1]; congr 3; omega,by simpa using h2⟩
   .cases h
theorem AzF{d:TypeDesc}{k k':AV}{u u':Value}{fl fl':Bool}(hk:keyEq d k k'=some true)(r:RV h (Lf ρ sto) fl u k)(r':RV h (Lf ρ sto) fl' u' k'):u'=u:=by
 cases d <;> cases k <;> cases k' <;> simp[keyEq]at hk
 .rw [AaS r,AaS r',hk]
 .rw [AaE r,AaE r']
  grind
 .rw [AaQ r,AaQ r',hk]
theorem AvQ{kt:TypeId}{d:TypeDesc}(hkt:P.underlying kt=some d){k:AV}{u:Value}{fl:Bool}(r:RV h (Lf ρ sto) fl u k){es:List (AV×AV)}{en:List MapEntry}(hl:en.length=es.length)(hr:EnRel h ρ sto es en)
  {x:Option (Nat×AV)} (hv:∀ x∈es,liveK x.1=true) (hx:mfind d k es 0=some x):KF P kt w es en u x:=by
 have f:=ArQ r hl hr hv hx
 cases x with
 | none=>exact⟨MapKept.run_findKey hkt f,ArR r hl hr hv hx⟩
 | some jv =>
  obtain⟨j,v⟩:=jv;obtain⟨y,z,f1,f2,f3,f4,f5,f6⟩:=f;simp only[Nat.sub_zero]at f3 f4;have he:y.key=u:=by
   have key:∀ (es:List (AV×AV)) (i:Nat),mfind d k es i=some (some (j,v))->∀ z,es[j-i]? = some z->i<=j->keyEq d k z.1=some true:=by
    intro es
    induction es with
    | nil=>intro i h; simp[mfind]at h
    | cons a es ih =>
     intro i h z hz hij;simp only[mfind]at h
     split at h
     .rename_i hq
      simp only[lad,laq]at h;have:j-i=0:=by omega
      rw[this]at hz
      simp at hz
      subst hz;exact hq
     .rename_i hq
      have hne:i+1<=j:=by
       have:∀ (es:List (AV×AV)) (i:Nat),mfind d k es i=some (some (j,v))->i<=j:=by
        intro es
        induction es with
        | nil=>intro i h; simp[mfind]at h
        | cons b es ih2 =>
         intro i h;simp only[mfind]at h
         split at h
         .simp only [lad,laq]at h; omega
         .have:=ih2 _ h; omega
         .cases h
       exact this _ _ h
      refine ih (i+1) h z ?_ hne;have e:j-i=(j-(i+1))+1:=by omega
      rw[e]at hz
      simpa using hz
     .cases h
   exact AzF (key es 0 hx z f4 (Nat.zero_le _)) r (hr j z y f4 f3).1
  exact⟨y,z,MapKept.run_findKey hkt f1,f3,f4,f5,he,by rw[<- he]at f6 |-; exact f6⟩
theorem AfI{kt:TypeId}{d:TypeDesc}(hkt:P.underlying kt=some d){k:AV}{u:Value}{fl:Bool}(hik:AdA d k=true)(r:RV h (Lf ρ sto) fl u k){es:List (AV×AV)}{en:List MapEntry}(hl:en.length=(lvs es).length)(hr:EnRel h ρ sto (lvs es) en)
  {x:Option (Nat×AV)} (hx:mfind d k es 0=some x):KFx P kt w es en u x:=by
 have f:=AiP hik hx
 cases x with
 | none=>exact AvQ hkt r hl hr (fun _ h=>AdY h) (f 0)
 | some jv =>
  obtain⟨j,v⟩:=jv;obtain⟨p,h1,h2⟩:=f;exact⟨p,h2,AvQ hkt r hl hr (fun _ h=>AdY h) (by simpa using h1 0)⟩
theorem AvR{kt:TypeId}{fs:Array Field}(hkt:P.underlying kt=some (.struct fs))(hp:AbR P kt=true){k k':AV}{u u':Value}{b:Bool}(hk:keyEqS P fs.toList k k'=some b)(hlv:liveK k'=true)(r:RV h (Lf ρ sto) false u k)(r':RV h (Lf ρ sto) false u' k') :
  (Op.equal kt u u').run P w=.ok b w/\(b=true->u'=u/\Instr.sameBits 10000 u u=true)/\(u'=u->b=true):=by
 unfold keyEqS at hk
 split at hk
 .rename_i xs ys
  obtain⟨vs,rfl,r1⟩:=inv_agg r;obtain⟨us,rfl,r2⟩:=inv_agg r'
  cases hl:decide (xs.length=fs.toList.length)&&decide (ys.length=fs.toList.length)with
  | false=>rw[hl]at hk; simp at hk
  | true =>
   rw[hl]at hk;simp only[lai]at hk;simp only[lac,lar]at hl;have hfo:P.fieldsOf kt=fs:=by simp[Program.fieldsOf,hkt]
   unfold AbR at hp;rw[hkt]at hp;simp only[lac,laz]at hp;obtain⟨g1,g2,g3⟩:=hp;have s:=AnQ r1 r2 hl.1 hl.2 hk;refine⟨?_,fun hb=>?_,fun e=>s.2 ?_⟩
   .show (Op.equalIn 10000 kt (.agg vs.toArray) (.agg us.toArray)).run P w=.ok b w
    rw[run_equalIn_struct w 9999 kt _ _ (by rw[hfo]; exact hkt) g2,hfo];exact AdE (d:=9998) g3 (by simpa using r1) (by simpa using r2) hk
   .obtain ⟨e1,e2⟩:=s.1 hb
    subst e1;refine⟨rfl,?_⟩
    show(vs.toArray.size==vs.toArray.size&&(vs.toArray.toList.zip vs.toArray.toList).all fun(x,y)=>Instr.sameBits 9999 x y)=true
    simpa using e2
   .simp at e; exact e.symm
 .simp [liveK]at hlv
 .cases hk
def mfindE(E:AV->Option Bool):List (AV×AV)->Nat->Option (Option (Nat×AV))
 | [],_=>some none
 | x::r,i=>match E x.1 with
  | some true=>some (some (i,x.2))
  | some false=>mfindE E r (i+1)
  | none=>none
theorem AhF{fs:List Field}{k:AV}:∀ (es:List (AV×AV))(i:Nat),mfindS P fs k es i=mfindE (keyEqS P fs k) es i
 | [],_=>rfl
 | x::r,i=>by
  simp only[mfindS,mfindE,AhF r]
  cases keyEqS P fs k x.1 with
  | none=>rfl
  | some b=>cases b <;> rfl
theorem AhG{kt:TypeId}{k:AV}:∀ (es:List (AV×AV))(i:Nat),mfindT P kt k es i=mfindE (keyEqT P kt k) es i
 | [],_=>rfl
 | x::r,i=>by
  simp only[mfindT,mfindE,AhG r]
  cases keyEqT P kt k x.1 with
  | none=>rfl
  | some b=>cases b <;> rfl
theorem AgE{E:AV->Option Bool}(hE:∀ a b,E (.fz a b)=some false):∀ {es:List (AV×AV)}{i:Nat}{x:Option (Nat×AV)},mfindE E es i=some x ->
  match x with
  | none=>∀ i',mfindE E (lvs es) i'=some none
  | some (j,v)=>∃ p,(∀ i',mfindE E (lvs es) i'=some (some (i'+p,v)))/\(ixs i es)[p]? = some j
 | [],i,x,h=>by
  simp only[mfindE,lad]at h;subst h;exact fun _=>rfl
 | z::es,i,x,h=>by
  cases hl:liveK z.1 with
  | false =>
   obtain⟨a,b⟩:=z;have hq:E a=some false:=by
    cases a <;> simp[liveK]at hl
    exact hE _ _
   simp only[mfindE,hq]at h;have ih:=AgE hE h;simp only[lvs,ixs,hl,lap];exact ih
  | true =>
   simp only[mfindE]at h;simp only[lvs,ixs,hl,lai]
   split at h
   .rename_i hq
    simp only[lad]at h;subst h;exact⟨0,fun i'=>by simp[mfindE,hq],rfl⟩
   .rename_i hq
    have ih:=AgE hE h
    cases x with
    | none=>exact fun i'=>by simp only[mfindE,hq]; exact ih _
    | some jv =>
     obtain⟨j,v⟩:=jv;obtain⟨p,h1,h2⟩:=ih;exact⟨p+1,fun i'=>by simp only[mfindE,hq]; rw[h1]; congr 3; omega,by simpa using h2⟩
   .cases h
def KeyE(P:Program)(h:Mem)(L:Value->AV->Prop)(w:World)(kt:TypeId)(u:Value)(E:AV->Option Bool):Prop :=
 ∀ {k':AV} {u':Value} {b:Bool},E k'=some b->liveK k'=true->RV h L false u' k'->(Op.equal kt u u').run P w=.ok b w/\(b=true->u'=u/\Instr.sameBits 10000 u u=true)/\(u'=u->b=true)
theorem AnR{kt:TypeId}{fs:Array Field}(hkt:P.underlying kt=some (.struct fs)){E:AV->Option Bool}{u:Value}(hE:KeyE P h (Lf ρ sto) w kt u E){es:List (AV×AV)}{en:List MapEntry}(hl:en.length=es.length)(hr:EnRel h ρ sto es en)
  {x:Option (Nat×AV)} (hv:∀ x∈es,liveK x.1=true) (hx:mfindE E es 0=some x):KF P kt w es en u x:=by
 have hfk:∀ x,(Instr.findAsking kt u en 0).run P w=.ok x w->(Instr.findKey kt u en).run P w=.ok x w:=by
  intro x hx
  cases en with
  | nil =>
   simp only[Instr.findAsking,Sem.run_pure]at hx
   simp[Instr.findKey,run_underlying hkt,Instr.findNow,hx]
  | cons y en =>
   have:Instr.sameNow (.struct fs) u y.key=none:=rfl
   simp[Instr.findKey,run_underlying hkt,Instr.findNow,this,hx]
 have key:∀ (es:List (AV×AV)) (en:List MapEntry) (i:Nat) (x:Option (Nat×AV)),en.length=es.length->EnRel h ρ sto es en->(∀ x∈es,liveK x.1=true)->mfindE E es i=some x ->
   match x with
   | none=>(Instr.findAsking kt u en i).run P w=.ok none w/\∀ y∈en,y.key≠u
   | some (j,v)=>∃ (y:MapEntry) (z:AV×AV),(Instr.findAsking kt u en i).run P w=.ok (some (j,y.val)) w/\i<=j/\en[j-i]? = some y/\es[j-i]? = some z/\z.2=v/\y.key=u/\Instr.sameBits 10000 u u=true:=by
  intro es
  induction es with
  | nil =>
   intro en i x hl _ _ hx;simp only[mfindE,lad]at hx;subst hx;have:en=[]:=lbe (by simpa using hl);subst this
   simp[Instr.findAsking]
  | cons z es ih =>
   intro en i x hl hr hv hx
   cases en with
   | nil=>simp at hl
   | cons y en =>
    have h0:=hr 0 z y rfl rfl;have hz:=hv z (by simp);have h0':RV h (Lf ρ sto) false y.key z.1:=h0.1.thaw (fun _ _ _ x=>x);simp only[mfindE]at hx
    split at hx
    .rename_i hq
     obtain⟨s1,s2,s3⟩:=hE hq hz h0';simp only[lad]at hx;subst hx;obtain⟨e1,e2⟩:=s2 rfl;exact⟨y,z,by simp[Instr.findAsking,s1],lal _,by simp,by simp,rfl,e1,e2⟩
    .rename_i hq
     obtain⟨s1,s2,s3⟩:=hE hq hz h0';have ih:=ih en (i+1) x (by simpa using hl) (fun j a b h1 h2=>hr (j+1) a b h1 h2) (fun x hx=>hv x (by simp[hx])) hx
     cases x with
     | none =>
      refine⟨by simpa[Instr.findAsking,s1]using ih.1,fun y' hy' e=>?_⟩
      rcases List.mem_cons.1 hy' with rfl|hy'
      .exact absurd (s3 e) (by simp)
      .exact ih.2 y' hy' e
     | some jv =>
      obtain⟨j,v⟩:=jv;obtain⟨y',z',i1,i2,i3,i4,i5⟩:=ih;have e:j-i=(j-(i+1))+1:=by omega
      exact⟨y',z',by simpa[Instr.findAsking,s1]using i1,by omega,by rw[e]; simpa using i3,by rw[e]; simpa using i4,i5⟩
    .cases hx
 have:=key es en 0 x hl hr hv hx
 cases x with
 | none=>exact⟨hfk _ this.1,this.2⟩
 | some jv =>
  obtain⟨j,v⟩:=jv;obtain⟨y,z,f1,f2,f3,f4,f5⟩:=this;exact⟨y,z,hfk _ f1,by simpa using f3,by simpa using f4,f5⟩
theorem AcG{kt:TypeId}{fs:Array Field}(hkt:P.underlying kt=some (.struct fs)){E:AV->Option Bool}{u:Value}(hE:KeyE P h (Lf ρ sto) w kt u E)(hz:∀ a b,E (.fz a b)=some false){es:List (AV×AV)}{en:List MapEntry}(hl:en.length=(lvs es).length)(hr:EnRel h ρ sto (lvs es) en)
  {x:Option (Nat×AV)} (hx:mfindE E es 0=some x):KFx P kt w es en u x:=by
 have f:=AgE hz hx
 cases x with
 | none=>exact AnR hkt hE hl hr (fun _ h=>AdY h) (f 0)
 | some jv =>
  obtain⟨j,v⟩:=jv;obtain⟨p,h1,h2⟩:=f;exact⟨p,h2,AnR hkt hE hl hr (fun _ h=>AdY h) (by simpa using h1 0)⟩
theorem AvS{kt:TypeId}{fs:Array Field}(hkt:P.underlying kt=some (.struct fs))(hp:AbR P kt=true){k:AV}{u:Value}(r:RV h (Lf ρ sto) false u k):KeyE P h (Lf ρ sto) w kt u (keyEqS P fs.toList k) :=
 fun hk hl r'=>AvR (w:=w) hkt hp hk hl r r'
theorem AqB{fs:List Field}{k:AV}(hk:isKeyS P fs k=true)(a:Nat)(b:LA):keyEqS P fs k (.fz a b)=some false:=by
 unfold isKeyS keyEqS at hk
 cases k <;> first|rfl|(simp at hk)
theorem AnS:∀ {ts:List TypeId}{xs ys:LA}{vs us:List Value}{b:Bool}{fl fl':Bool},RL h (Lf ρ sto) fl vs xs->RL h (Lf ρ sto) fl' us ys->eqLs P ts xs ys=some b ->
  (b=true->vs=us/\(vs.zip us).all (fun p=>Instr.sameBits 9999 p.1 p.2)=true)/\(vs=us->b=true)
 | [],[],[],vs,us,b,_,_,r1,r2,hb=>by
  cases r1; cases r2
  simp only[eqLs,lad]at hb;subst hb
  simp
 | [],[],_::_,_,_,b,_,_,_,_,hb=>by simp[eqLs]at hb
 | [],_::_,_,_,_,b,_,_,_,_,hb=>by simp[eqLs]at hb
 | t::ts,[],_,_,_,b,_,_,_,_,hb=>by simp[eqLs]at hb
 | t::ts,_::_,[],_,_,b,_,_,_,_,hb=>by simp[eqLs]at hb
 | t::ts,x::xs,y::ys,vs,us,b,_,_,r1,r2,hb=>by
  cases r1 with
  | @cons _ v _ vs _ a1 a2 =>
   cases r2 with
   | @cons _ u _ us _ b1 b2 =>
    rw[eqLs]at hb
    cases q1:leafEq (P.underlying t) x y with
    | none=>rw[q1]at hb; simp[bothB]at hb
    | some p =>
     cases q2:eqLs P ts xs ys with
     | none=>rw[q1,q2]at hb; simp[bothB]at hb
     | some q =>
      rw[q1,q2]at hb;simp only[bothB,lad]at hb;subst hb;have l1:=AiO q1 a1 b1;have l2:=AnS (ts:=ts) a2 b2 q2;refine⟨fun hh=>?_,fun e=>?_⟩
      .simp only [lac]at hh
       obtain⟨e1,e2⟩:=l1.1 hh.1;obtain⟨e3,e4⟩:=l2.1 hh.2;subst e1 e3;refine⟨rfl,?_⟩;simp only[List.zip_cons_cons,lay,e2,e4,Bool.and_self]
      .simp only [List.cons.injEq]at e
       simp[l1.2 e.1,l2.2 e.2]
theorem AvT{kt:TypeId}{fs:Array Field}(hkt:P.underlying kt=some (.struct fs))(hp:AbY P kt=true){k:AV}{u:Value}(r:RV h (Lf ρ sto) false u k):KeyE P h (Lf ρ sto) w kt u (keyEqT P kt k):=by
 intro k' u' b hk hlv r';unfold keyEqT at hk
 split at hk
 .rename_i xs ys
  obtain⟨vs,rfl,r1⟩:=inv_agg r;obtain⟨us,rfl,r2⟩:=inv_agg r';unfold AbY at hp;simp only[lac,laz]at hp;obtain⟨g1,g2⟩:=hp;have s:=AnS r1 r2 hk;refine⟨A2C (d:=9995) 4 hkt g2 r1 r2 hk,fun hb=>?_,fun e=>s.2 ?_⟩
  .obtain ⟨e1,e2⟩:=s.1 hb
   subst e1;refine⟨rfl,?_⟩
   show(vs.toArray.size==vs.toArray.size&&(vs.toArray.toList.zip vs.toArray.toList).all fun(x,y)=>Instr.sameBits 9999 x y)=true
   simpa using e2
  .simp at e; exact e.symm
 .simp [liveK]at hlv
 .cases hk
theorem AqC{kt:TypeId}{k:AV}(hk:isKeyT P kt k=true)(a:Nat)(b:LA):keyEqT P kt k (.fz a b)=some false:=by
 unfold isKeyT keyEqT at hk
 cases k <;> first|rfl|(simp at hk)
theorem AiQ{b:Bool}{u:List Value}:∀ {fs:List Field}{i:Nat}{xs:LA},offsOk i fs=true->RL h (Lf ρ sto) false (u.drop i) xs->eqFs P fs xs xs=some true ->
  (forIn fs PUnit.unit (fun (f:Field) (_:PUnit)=>(if f.name ≠ "_" then (do
    let x <- part f.type u.toArray f.offset
    Instr.checkKey b 9999 f.type x
    pure (ForInStep.yield PUnit.unit)) else pure (ForInStep.yield PUnit.unit):Sem (ForInStep PUnit)))).run P w=.ok PUnit.unit w
 | [],i,xs,_,_,_=>by simp
 | f::fs,i,[],_,_,hb=>by simp[eqFs]at hb
 | f::fs,i,x::xs,ho,r,hb=>by
  simp only[offsOk,lac,bne_iff_ne,ne_eq,beq_iff_eq]at ho;obtain⟨o1,o2,o3⟩:=ho;obtain⟨v,v1,v2,v3⟩:=r.drop1;rw[eqFs]at hb
  cases h1:leafEq (P.underlying f.type) x x with
  | none=>rw[h1]at hb; simp[bothB]at hb
  | some p =>
   cases h2:eqFs P fs xs xs with
   | none=>rw[h1,h2]at hb; simp[bothB]at hb
   | some q =>
    rw[h1,h2]at hb;simp only[bothB,lad,lac]at hb;have ih:=AiQ (b:=b) (u:=u) o3 v3 (by rw[h2,hb.2]);have hpart:=AcW (w:=w) h1 (cs:=u.toArray) (i:=i) (by simpa using v1);have hck':∀ n,(Instr.checkKey b (n+1) f.type v).run P w=.ok () w:=by
     intro n;obtain⟨d,hd⟩:∃ d,P.underlying f.type=some d:=by
      cases hq:P.underlying f.type with
      | none=>rw[hq]at h1; simp[leafEq]at h1
      | some d=>exact⟨d,rfl⟩
     rw[hd]at h1
     cases d <;> first|(simp[Instr.checkKey,run_underlying hd]; done)|(simp[leafEq]at h1; done)
    have hck:=hck' 9998;rw[List.forIn_cons];simp only[Sem.run_bind,o1,not_false_eq_true,if_true,o2,hpart,hck,Result.andThen_ok,ne_eq,Sem.run_pure];exact ih
theorem AdR{kt:TypeId}{fs:Array Field}(hkt:P.underlying kt=some (.struct fs))(hp:AbR P kt=true){k:AV}{u:Value}(r:RV h (Lf ρ sto) false u k)(hk:isKeyS P fs.toList k=true)(b:Bool):(Instr.checkKey b 10000 kt u).run P w=.ok () w:=by
 unfold isKeyS keyEqS at hk
 cases k with
 | agg xs =>
  obtain⟨vs,rfl,r1⟩:=inv_agg r;simp only at hk
  cases hl:decide (xs.length=fs.toList.length)with
  | false=>rw[hl]at hk; simp at hk
  | true =>
   rw[hl]at hk;simp only[Bool.and_self,lai]at hk;unfold AbR at hp;rw[hkt]at hp;simp only[lac,laz]at hp;obtain⟨g1,g2,g3⟩:=hp;have hb:eqFs P fs.toList xs xs=some true:=by
    cases hq:eqFs P fs.toList xs xs with
    | none=>rw[hq]at hk; simp at hk
    | some c=>rw[hq]at hk; cases c <;> simp at hk |-
   have:=AiQ (w:=w) (b:=b) (u:=vs) g3 (by simpa using r1) hb;have e:(10000:Nat)=9999+1:=rfl;rw[e];unfold Instr.checkKey;simp only[Sem.run_bind,run_underlying hkt,Result.andThen_ok];rw[<- Array.forIn_toList,this];rfl
 | _=>simp at hk
theorem AtO{fs:List Field}{k:AV}{u:Value}(r:RV h (Lf ρ sto) false u k)(hk:isKeyS P fs k=true){h':Mem}{Lf':Value->AV->Prop}{f:Bool}(hh:∀ b o v,h b o=some v->h' b o=some v):RV h' Lf' f u k:=by
 unfold isKeyS keyEqS at hk
 cases k with
 | agg xs =>
  obtain⟨vs,rfl,r1⟩:=inv_agg r;simp only at hk
  cases hl:decide (xs.length=fs.length)with
  | false=>rw[hl]at hk; simp at hk
  | true =>
   rw[hl]at hk;simp only[Bool.and_self,lai]at hk;have hx:xs.all frozen=true:=by
    have key:∀ (fs:List Field) (xs:LA),xs.length=fs.length->(∃ b,eqFs P fs xs xs=some b)->xs.all frozen=true:=by
     intro fs
     induction fs with
     | nil=>intro xs h _; have:=lbe h; subst this; rfl
     | cons f fs ih =>
      intro xs h hb
      cases xs with
      | nil=>simp at h
      | cons x xs =>
       obtain⟨b,hb⟩:=hb;rw[eqFs]at hb
       cases h1:leafEq (P.underlying f.type) x x with
       | none=>rw[h1]at hb; simp[bothB]at hb
       | some p =>
        cases h2:eqFs P fs xs xs with
        | none=>rw[h1,h2]at hb; simp[bothB]at hb
        | some q =>
         have:=ih xs (by simpa using h) ⟨q,h2⟩;simp only[lay,this,lbg]
         cases x <;> first|rfl|(exfalso; revert h1; unfold leafEq; split <;> simp_all; done)
    refine key fs xs (of_decide_eq_true hl) ?_
    cases hq:eqFs P fs xs xs with
    | none=>rw[hq]at hk; simp at hk
    | some c=>exact⟨c,rfl⟩
   exact .agg _ _ ((AbT r1 hx).thaw hh)
 | _=>simp at hk
theorem ArS:∀ {ts:List TypeId}{xs:LA}{b:Bool},eqLs P ts xs xs=some b->xs.all frozen=true
 | [],[],_,_=>rfl
 | [],_::_,_,h=>by simp[eqLs]at h
 | _::_,[],_,h=>by simp[eqLs]at h
 | t::ts,x::xs,b,h=>by
  rw[eqLs]at h
  cases h1:leafEq (P.underlying t) x x with
  | none=>rw[h1]at h; simp[bothB]at h
  | some p =>
   cases h2:eqLs P ts xs xs with
   | none=>rw[h1,h2]at h; simp[bothB]at h
   | some q =>
    have:=ArS h2;simp only[lay,this,lbg]
    cases x <;> first|rfl|(exfalso; revert h1; unfold leafEq; split <;> simp_all; done)
theorem AtP{kt:TypeId}{k:AV}{u:Value}(r:RV h (Lf ρ sto) false u k)(hk:isKeyT P kt k=true){h':Mem}{Lf':Value->AV->Prop}{f:Bool}(hh:∀ b o v,h b o=some v->h' b o=some v):RV h' Lf' f u k:=by
 unfold isKeyT keyEqT at hk
 cases k with
 | agg xs =>
  obtain⟨vs,rfl,r1⟩:=inv_agg r;simp only at hk
  cases hq:eqLs P (leafTs P 4 kt) xs xs with
  | none=>rw[hq]at hk; simp at hk
  | some c=>exact .agg _ _ ((AbT r1 (ArS hq)).thaw hh)
 | _=>simp at hk
theorem AtQ{t:TypeId}{x y:AV}{c:Bool}(h1:leafEq (P.underlying t) x y=some c)(b:Bool)(n:Nat)(v:Value):(Instr.checkKey b (n+1) t v).run P w=.ok () w:=by
 obtain⟨d,hd⟩:∃ d,P.underlying t=some d:=by
  cases hq:P.underlying t with
  | none=>rw[hq]at h1; simp[leafEq]at h1
  | some d=>exact⟨d,rfl⟩
 rw[hd]at h1
 cases d <;> first|(simp[Instr.checkKey,run_underlying hd]; done)|(simp[leafEq]at h1; done)
theorem A2D{e:Bool}{d:Nat}:∀ (n:Nat){t:TypeId}{vs:List Value}{xs:LA}{fs:Array Field}{b:Bool},P.underlying t=some (.struct fs)->shapeT P n t=true->RL h (Lf ρ sto) false vs xs->eqLs P (leafTs P n t) xs xs=some b ->
  (Instr.checkKey e (d+n+1) t (.agg vs.toArray)).run P w=.ok () w
 | 0,t,vs,xs,fs,b,ht,hs,_,_=>by simp[shapeT,ht]at hs
 | n+1,t,vs,xs,fs,b,ht,hs,r1,hb=>by
  simp only[shapeT,ht,lac,laz]at hs;obtain⟨hs1,hs2⟩:=hs;simp only[leafTs,ht]at hb;have key:∀ (fl:List Field) (i:Nat) (b:Bool),offsG P (shapeT P n) (leafTs P n) i fl=true->eqLs P (fl.flatMap fun f=>leafTs P n f.type) (xs.drop i) (xs.drop i)=some b ->
    (forIn fl PUnit.unit (fun (f:Field) (_:PUnit)=>(if f.name ≠ "_" then (do
     let x <- part f.type vs.toArray f.offset
     Instr.checkKey e (d+n+1) f.type x
     pure (ForInStep.yield PUnit.unit)) else pure (ForInStep.yield PUnit.unit):Sem (ForInStep PUnit)))).run P w=.ok PUnit.unit w:=by
   intro fl
   induction fl with
   | nil=>intro i b _ _; simp
   | cons f fl ih =>
    intro i b ho hb;simp only[offsG,lac,bne_iff_ne,ne_eq,beq_iff_eq]at ho;obtain⟨o1,o2,o3,⟨o4,o6⟩,o5⟩:=ho;simp only[lar]at o6;simp only[List.flatMap_cons]at hb;obtain⟨p,q,k1,k2,k3,k4,k5⟩:=AlN hb;rw[List.drop_drop]at k2;have ih:=ih (i+(leafTs P n f.type).length) q o5 k2;have key:∃ u,(part f.type vs.toArray f.offset).run P w=.ok u w/\(Instr.checkKey e (d+n+1) f.type u).run P w=.ok () w:=by
     rw[o2]
     by_cases hst:∃ gs,P.underlying f.type=some (.struct gs)
     .obtain ⟨gs,hd⟩:=hst
      have hh:has (P.underlying f.type):=by rw[hd]; rfl
      simp only[List.length_drop]at k4 k5;obtain⟨u,u1,u2⟩:=AcE (w:=w) hh r1 (off:=i) (by rw[hd]; simp only[isRow,xpartOk,lai]; omega);rw[hd]at u2;simp only[isRow,xpart,lai]at u2;obtain⟨us',rfl,ru⟩:=inv_agg u2;rw[o4]at ru;exact⟨_,u1,A2D (d:=d) n hd o3 ru k1⟩
     .have hlf:=AiN (P:=P) (t:=f.type) (fun gs e=>hst ⟨gs,e⟩) n
      rw[hlf]at k1 k4 k5;simp only[lan,lbm,lbc,List.length_drop]at k1 k4 k5;have hx:xs.drop i=xs[i]'(by omega)::xs.drop (i+1):=List.drop_eq_getElem_cons (by omega);rw[hx]at k1;simp only[List.take_succ_cons,List.take_zero,eqLs]at k1;obtain⟨v,v1,v2,v3⟩:=RL.drop1 (i:=i) (x:=xs[i]'(by omega)) (xs:=xs.drop (i+1)) (by rw[<- hx]; exact r1.drop i)
      cases hl:leafEq (P.underlying f.type) (xs[i]'(by omega)) (xs[i]'(by omega))with
      | none=>rw[hl]at k1; simp[bothB]at k1
      | some c=>exact⟨v,AcW (w:=w) hl (by simpa using v1),AtQ hl e (d+n) v⟩
    obtain⟨u,u1,hq⟩:=key;rw[List.forIn_cons];simp only[Sem.run_bind,o1,not_false_eq_true,if_true,u1,hq,Result.andThen_ok,ne_eq,Sem.run_pure];exact ih
  have:=key fs.toList 0 b hs2 (by simpa using hb);rw[show d+(n+1)+1=(d+n+1)+1 by omega];unfold Instr.checkKey;simp only[Sem.run_bind,run_underlying ht,Result.andThen_ok];rw[<- Array.forIn_toList,this];rfl
theorem AqD{kt:TypeId}{fs:Array Field}(hkt:P.underlying kt=some (.struct fs))(hp:AbY P kt=true){k:AV}{u:Value}(r:RV h (Lf ρ sto) false u k)(hk:isKeyT P kt k=true)(b:Bool):(Instr.checkKey b 10000 kt u).run P w=.ok () w:=by
 unfold isKeyT keyEqT at hk
 cases k with
 | agg xs =>
  obtain⟨vs,rfl,r1⟩:=inv_agg r;simp only at hk;unfold AbY at hp;simp only[lac,laz]at hp
  cases hq:eqLs P (leafTs P 4 kt) xs xs with
  | none=>rw[hq]at hk; simp at hk
  | some c=>exact A2D (d:=9995) 4 hkt hp.2 r1 hq
 | _=>simp at hk
theorem AdZ{d:TypeDesc}{k:AV}(h:AdA d k=true):liveK k=true:=by
 cases k <;> cases d <;> first|rfl|simp[AdA]at h
theorem AqE{fs:List Field}{k:AV}(h:isKeyS P fs k=true):liveK k=true:=by
 unfold isKeyS keyEqS at h
 cases k <;> first|rfl|simp at h
theorem AqF{kt:TypeId}{k:AV}(h:isKeyT P kt k=true):liveK k=true:=by
 unfold isKeyT keyEqT at h
 cases k <;> first|rfl|simp at h
theorem AeA(m:Mine h ρ sto w){id g clock clock':Nat}{en en':Array MapEntry}{es es':List (AV×AV)}(hb:sto[id]? = some (.mp es))(hg:ρ id=some (g,0))(o2:w.heap[g]? = some (.map en clock))
  (hlen:en'.toList.length=(lvs es').length) (hrel:EnRel h ρ sto (lvs es') en'.toList) (hok:EnOk en' clock' es') :
  Mine h ρ (sto.set id (.mp es')) { w with heap:=w.heap.setIfInBounds g (.map en' clock') }/\Later h ρ sto w h ρ (sto.set id (.mp es')) { w with heap:=w.heap.setIfInBounds g (.map en' clock') }:=by
 obtain⟨hs1,hs2⟩:=MapKept.heap_set (o':=.map en' clock') o2;refine m.write (w':={ w with heap:=w.heap.setIfInBounds g (.map en' clock') }) hb (b':=.mp es') hg trivial rfl rfl ⟨rfl,Tr.same rfl⟩ (by simp) (fun k' hk'=>hs2 k' hk') ?_;refine⟨g,en',clock',hg,hs1,hlen,fun j x y h1 h2=>?_,hok⟩;obtain⟨p,q⟩:=hrel j x y h1 h2;have hkp:∀ v a,Lf ρ sto v a->Lf ρ (sto.set id (.mp es')) v a:=fun v a lf=>⟨lf.1,AbL hb (fun _ _=>rfl) rfl lf.2⟩
 exact⟨p.mono (fun _ _ _ x=>x) hkp,q.mono (fun _ _ _ x=>x) hkp⟩
theorem EnRel.set{es:List (AV×AV)}{en:Array MapEntry}(r:EnRel h ρ sto es en.toList){i:Nat}{ka va:AV}{f:MapEntry->MapEntry}(hf:∀ y,en.toList[i]? = some y->RV h (Lf ρ sto) true (f y).key ka/\RV h (Lf ρ sto) false (f y).val va):EnRel h ρ sto (es.set i (ka,va)) (en.modify i f).toList:=by
 intro j x' y' h1 h2;rw[lbo,Array.getElem?_modify]at h2
 by_cases hj:i=j
 .grind
 .rw [lba hj]at h1
  exact r j x' y' h1 (by grind)
theorem EnRel.push{es:List (AV×AV)}{en:Array MapEntry}(r:EnRel h ρ sto es en.toList)(hl:en.toList.length=es.length){ka va:AV}{y:MapEntry}(hk:RV h (Lf ρ sto) true y.key ka)(hv:RV h (Lf ρ sto) false y.val va):EnRel h ρ sto (es++[(ka,va)]) (en.push y).toList:=by
 intro j x' y' h1 h2;rw[Array.toList_push]at h2
 by_cases hj:j<es.length
 .rw [lao hj]at h1
  rw[lao (by omega)]at h2;exact r j x' y' h1 h2
 grind
theorem EnRel.erase{es:List (AV×AV)}{en:Array MapEntry}(r:EnRel h ρ sto es en.toList)(p:Nat):EnRel h ρ sto (es.eraseIdx p) (en.eraseIdxIfInBounds p).toList:=by
 intro j x' y' h1 h2;have e:(en.eraseIdxIfInBounds p).toList=en.toList.eraseIdx p:=by simp
 rw[e,List.getElem?_eraseIdx]at h2;rw[List.getElem?_eraseIdx]at h1
 split at h2
 .rename_i hj
  rw[if_pos hj]at h1;exact r j x' y' h1 h2
 .rename_i hj
  rw[if_neg hj]at h1;exact r (j+1) x' y' h1 h2
theorem AcX{id:Nat}{es:List (AV×AV)}(hb:sto.getD id .dead=.mp es):sto[id]? = some (.mp es):=by
 grind
theorem AkK(m:Mine h ρ sto w){id:Nat}{es:List (AV×AV)}{u:Value}{fl:Bool}(hb:sto[id]? = some (.mp es))(r:RV h (Lf ρ sto) fl u (.mp id)) :
  ∃ g en clock,u=.map (some g)/\ρ id=some (g,0)/\w.heap[g]? = some (.map en clock)/\en.toList.length=(lvs es).length/\EnRel h ρ sto (lvs es) en.toList/\EnOk en clock es:=by
 have hl:=(AgT r).2;simp only[LfC,hb]at hl;obtain⟨g,hg,rfl⟩:=hl;obtain⟨g',en,clock,o1,o2,o3,o4,o5⟩:=m.own id _ hb;have:g'=g:=by rw[hg]at o1; simpa using o1.symm
 subst this;exact⟨g',en,clock,rfl,hg,o2,o3,o4,o5⟩
theorem AvU{t kt et:TypeId}(m:Mine h ρ sto w){id:Nat}{es:List (AV×AV)}{um uk uv:Value}{ka va:AV}(ht:P.underlying t=some (.map kt et))(hb:sto[id]? = some (.mp es))(hm:RV h (Lf ρ sto) false um (.mp id))(hlv:liveK ka=true)
  (hc:(Instr.checkKey false 10000 kt uk).run P w=.ok () w) (rk:RV h (Lf ρ sto) true uk ka) (hv:RV h (Lf ρ sto) false uv va) {x:Option (Nat×AV)} (hf:∀ en:List MapEntry,en.length=(lvs es).length->EnRel h ρ sto (lvs es) en->KFx P kt w es en uk x) :
  Okv h ρ sto w (((Instr.mapUpdate t um uk uv).run P w).andThen fun _ w'=>.ok .skip w') (.raw undef) (sto.set id (.mp (match x with|some (i,_)=>es.set i (ka,va)|none=>es++[(ka,va)]))):=by
 obtain⟨g,en,clock,rfl,hg,o2,o3,o4,o5⟩:=AkK m hb hm;have f:=hf en.toList o3 o4
 cases x with
 | none =>
  obtain⟨f1,f2⟩:=f;have hla:lvs (es++[(ka,va)])=lvs es++[(ka,va)]:=by rw[ApN]; simp[lvs,hlv]
  obtain⟨m',l'⟩:=AeA m hb hg o2 (en':=en.push { key:=uk,val:=uv,born:=clock }) (clock':=clock+1) (es':=es++[(ka,va)]) (by rw[hla]; simpa using o3) (by rw[hla]; exact o4.push o3 rk hv) (o5.push o3 (x:=(ka,va)) hlv f2);refine⟨_,_,_,_,.inr ⟨?_,rfl⟩,m',l',.raw _⟩
  simp[Instr.mapUpdate,run_underlying ht,MapKept.run_getObj_map o2,hc,f1,MapKept.run_setObj_map _ o2,Result.andThen]
 | some jv =>
  obtain⟨j,v⟩:=jv;obtain⟨p,hp,y,z,f1,f3,f4,f5,f6,f7⟩:=f;have f3':en[p]? = some y:=by simpa using f3
  obtain⟨hs1,hs2⟩:=AhT (x:=(ka,va)) hlv (i:=0) (p:=p) (j:=j) (by rw[lbc]; exact hp);obtain⟨m',l'⟩:=AeA m hb hg o2 (en':=en.modify p fun e=>{ e with key:=uk,val:=uv }) (clock':=clock) (es':=es.set j (ka,va)) (by rw[hs1]; simpa using o3) (by rw[hs1]; exact o4.set (fun _ _=>⟨rk,hv⟩)) (o5.modify p _ (by simp) (hs2 0) (fun _ _=>rfl) (fun y' hy'=>by
   rw[f3]at hy'; cases hy'; exact f6.symm))
  refine⟨_,_,_,_,.inr ⟨?_,rfl⟩,m',l',.raw _⟩
  simp[Instr.mapUpdate,run_underlying ht,MapKept.run_getObj_map o2,hc,f1,f3',f6,Instr.keyThatStays,f7,MapKept.run_setObj_map _ o2,Result.andThen]
theorem AnT{t:TypeId}{x k v:Operand}{o:Oper}{e:Env}{a:Act}(ho:o.op=.mapUpdate t x k v)(m:Mine h ρ sto w)(he:EnvOk h ρ sto e a) :
  Lc P h ρ sto w ((execOp a.eval o).run P w) (AhA P sto (ev e x) (ev e k) (ev e v) (P.underlying t)):=by
 have hx:=AaF he x;have hk:=AaF he k;have hv:=AaF he v;have hrun:(execOp a.eval o).run P w=((Instr.mapUpdate t (a.eval x) (a.eval k) (a.eval v)).run P w).andThen fun _ w'=>.ok .skip w':=by
  simp[execOp,ho]
 rw[hrun];generalize a.eval x=ux at *;generalize a.eval k=uk at *;generalize a.eval v=uv at *;generalize ev e k=ka at *;generalize ev e v=va at *;unfold AhA
 split
 .rename_i kt et ht
  split
  .rename_i fs id hkt hm
   rw[hm]at hx
   cases hfl:AaB P kt with
   | true =>
    simp only[lai];unfold AeL
    split
    .rename_i es hb
     have hb':=AcX hb
     cases hik:isKeyS P fs.toList ka with
     | false=>trivial
     | true =>
      simp only[lai]
      cases hf:mfindS P fs.toList ka es 0 with
      | none=>unfold xmputF; trivial
      | some r =>
       rw[AhF]at hf;have key:=fun hp:AbR P kt=true=>AvU (va:=va) m ht hb' hx (AqE hik) (AdR hkt hp hk hik false) (AtO hk hik (fun _ _ _ x=>x)) hv (fun en hl hr=>AcG (w:=w) hkt (AvS hkt hp hk) (AqB hik) hl hr hf)
       cases r with
       | none=>exact fun hp=>key hp.1
       | some jv=>obtain⟨j,v'⟩:=jv; exact fun hp=>key hp.1
    .trivial
   | false =>
    simp only[lap];unfold AeM
    split
    .rename_i es hb
     have hb':=AcX hb
     cases hik:isKeyT P kt ka with
     | false=>trivial
     | true =>
      simp only[lai]
      cases hf:mfindT P kt ka es 0 with
      | none=>unfold xmputF; trivial
      | some r =>
       rw[AhG]at hf;have key:=fun hp:AbY P kt=true=>AvU (va:=va) m ht hb' hx (AqF hik) (AqD hkt hp hk hik false) (AtP hk hik (fun _ _ _ x=>x)) hv (fun en hl hr=>AcG (w:=w) hkt (AvT hkt hp hk) (AqC hik) hl hr hf)
       cases r with
       | none=>exact fun hp=>key hp.1
       | some jv=>obtain⟨j,v'⟩:=jv; exact fun hp=>key hp.1
    .trivial
  .rename_i d id hns hkt hm
   rw[hm]at hx;unfold AeK
   split
   .rename_i es hb
    have hb':=AcX hb
    cases hik:AdA d ka with
    | false=>trivial
    | true =>
     simp only[lai];obtain⟨ik,rk⟩:=AhE hik hk
     cases hf:mfind d ka es 0 with
     | none=>unfold xmputF; trivial
     | some r =>
      have key:=AvU (va:=va) m ht hb' hx (AdZ hik) (MapKept.run_checkKey hkt ik false 9999) rk hv (fun en hl hr=>AfI (w:=w) hkt hik hk hl hr hf)
      cases r with
      | none=>exact fun _=>key
      | some jv=>obtain⟨j,v'⟩:=jv; exact fun _=>key
   .trivial
  .trivial
 .trivial
theorem del_ok{t rt kt et:TypeId}(m:Mine h ρ sto w){id:Nat}{es:List (AV×AV)}{um uk:Value}(ht:P.underlying t=some (.map kt et))(hb:sto[id]? = some (.mp es))(hm:RV h (Lf ρ sto) false um (.mp id))
  (hc:∀ b,(Instr.checkKey b 10000 kt uk).run P w=.ok () w) {p:Prop} {x:Option (Nat×AV)} (hf:p->∀ en:List MapEntry,en.length=(lvs es).length->EnRel h ρ sto (lvs es) en->KFx P kt w es en uk x) {r:Result Next}
  (hr:r=((Builtin.delete_ #[t,rt] rt #[um,uk]).run P w).andThen fun v w'=>.ok (.value v) w') :
  Lc P h ρ sto w r (ApT sto id es p (some x)):=by
 obtain⟨g,en,clock,rfl,hg,o2,o3,o4,o5⟩:=AkK m hb hm;have hself:({ w with heap:=w.heap.setIfInBounds g (.map en clock) }:World)=w:=by
  have:w.heap.setIfInBounds g (.map en clock)=w.heap:=by
   apply Array.ext (by simp);intro i h1 h2;rw[Array.getElem_setIfInBounds]
   split
   .rename_i e
    subst e;have:=(Array.getElem?_eq_some_iff.1 o2).2;exact this.symm
   .rfl
  rw[this]
 cases x with
 | none =>
  intro hp;obtain⟨f1,f2⟩:=hf hp en.toList o3 o4;refine AaA m (u:=.tuple #[]) ?_ (.tup [] [] .nil);rw[hr]
  simp[Builtin.delete_,run_underlying ht,MapKept.run_getObj_map o2,hc,f1,MapKept.run_setObj_map _ o2,Result.andThen,hself]
 | some jv =>
  obtain⟨j,v⟩:=jv;intro hp;obtain⟨p',hp',y,z,f1,f3,f4,f5,f6,f7⟩:=hf hp en.toList o3 o4;obtain⟨hs1,hs2⟩:=ApO (i:=0) (p:=p') (j:=j) (by rw[lbc]; exact hp');have hpl:=(List.getElem?_eq_some_iff.1 f3).1;obtain⟨m',l'⟩:=AeA m hb hg o2 (en':=en.eraseIdxIfInBounds p') (clock':=clock) (es':=es.set j tomb) (by rw[hs1]; simp[List.length_eraseIdx]; simpa using o3▸rfl) (by rw[hs1]; exact o4.erase p') (o5.erase p' (by simp) (hs2 0));refine⟨.tuple #[],_,_,_,.inl ?_,m',l',.tup [] [] .nil⟩;rw[hr]
  simp[Builtin.delete_,run_underlying ht,MapKept.run_getObj_map o2,hc,f1,MapKept.run_setObj_map _ o2,Result.andThen]
theorem AvV{t:TypeId}(hz:zok P t=true):∃ v,(zeroValue t).run P w=.ok v w/\∀ {h:Mem}{L:Value->AV->Prop},RV h L false v (zval P t):=by
 unfold zok at hz
 cases hq:P.info? t with
 | none=>grind
 | some i =>
  cases hq2:i.zero with
  | none=>grind
  | some zv =>
   refine⟨zv,by simp_all[zeroValue,typeInfo],fun{h L}=>?_⟩;simp only[zval,hq,hq2,Option.bind_some];have hcs:∀ vs:List Value,RL h L false vs (vs.map AcV):=by
    intro vs
    induction vs with
    | nil=>exact .nil
    | cons v vs ih =>
     refine .cons ?_ ih
     cases v <;> first|exact .int _ _|exact .bool _|exact .str _|exact .raw _
   cases zv <;> first|exact .agg _ _ (hcs _)|exact .int _ _|exact .bool _|exact .str _|exact .raw _
theorem AqG{t kt et:TypeId}{c:Bool}(m:Mine h ρ sto w){id:Nat}{es:List (AV×AV)}{um uk:Value}(ht:P.underlying t=some (.map kt et))(hb:sto[id]? = some (.mp es))(hm:RV h (Lf ρ sto) false um (.mp id))
  (hc:∀ b,(Instr.checkKey b 10000 kt uk).run P w=.ok () w) {x:Option (Nat×AV)} (hf:∀ en:List MapEntry,en.length=(lvs es).length->EnRel h ρ sto (lvs es) en->KFx P kt w es en uk x) :
  match x with
  | some (_,v)=>Okv h ρ sto w (((Instr.lookup t um uk c).run P w).andThen fun v w'=>.ok (.value v) w') (bif c then .tup [v,.bool true] else v) sto
  | none=>zok P et=true->Okv h ρ sto w (((Instr.lookup t um uk c).run P w).andThen fun v w'=>.ok (.value v) w') (bif c then .tup [zval P et,.bool false] else zval P et) sto:=by
 obtain⟨g,en,clock,rfl,hg,o2,o3,o4,o5⟩:=AkK m hb hm;have f:=hf en.toList o3 o4
 cases x with
 | none =>
  obtain⟨f1,f2⟩:=f;intro hz;obtain⟨zv,hz1,hz2⟩:=AvV (w:=w) hz;refine AaA m (u:=if c then .tuple #[zv,.bool false] else zv) ?_ ?_
  .simp [Instr.lookup,run_underlying ht,MapKept.run_getObj_map o2,hc,f1,hz1,Result.andThen]
  .cases c with
   | true=>exact .tup [_,_] [_,_] (.cons hz2 (.cons (.bool _) .nil))
   | false=>exact hz2
 | some jv =>
  obtain⟨j,v⟩:=jv;obtain⟨p,hp,y,z,f1,f3,f4,f5,f6,f7⟩:=f;obtain⟨_,q⟩:=o4 p z y f4 f3;subst f5;refine AaA m (u:=if c then .tuple #[y.val,.bool true] else y.val) ?_ ?_
  .simp [Instr.lookup,run_underlying ht,MapKept.run_getObj_map o2,hc,f1,Result.andThen]
  .cases c with
   | true=>exact .tup [_,_] [_,_] (.cons q (.cons (.bool _) .nil))
   | false=>exact q
theorem AvW{t:TypeId}{x k:Operand}{c:Bool}{o:Oper}{e:Env}{a:Act}(ho:o.op=.lookup t x k c)(m:Mine h ρ sto w)(he:EnvOk h ρ sto e a) :
  Lc P h ρ sto w ((execOp a.eval o).run P w) (AjO P sto (ev e x) (ev e k) c (P.underlying t)):=by
 have hx:=AaF he x;have hk:=AaF he k;have hrun:(execOp a.eval o).run P w=((Instr.lookup t (a.eval x) (a.eval k) c).run P w).andThen fun v w'=>.ok (.value v) w':=by
  simp[execOp,ho]
 rw[hrun];generalize a.eval x=ux at *;generalize a.eval k=uk at *;generalize ev e k=ka at *;unfold AjO
 split
 .rename_i kt et ht
  split
  .rename_i fs id hkt hm
   rw[hm]at hx
   cases hfl:AaB P kt with
   | true =>
    simp only[lai];unfold AkC
    split
    .rename_i es hb
     have hb':=AcX hb
     cases hik:isKeyS P fs.toList ka with
     | false=>trivial
     | true =>
      simp only[lai]
      cases hf:mfindS P fs.toList ka es 0 with
      | none=>trivial
      | some r =>
       rw[AhF]at hf;have key:=fun hp:AbR P kt=true=>AqG (c:=c) m ht hb' hx (fun b=>AdR hkt hp hk hik b) (fun en hl hr=>AcG (w:=w) hkt (AvS hkt hp hk) (AqB hik) hl hr hf)
       cases r with
       | none=>exact fun hp=>key hp.1 hp.2
       | some jv=>obtain⟨j,v'⟩:=jv; exact fun hp=>key hp
    .trivial
   | false =>
    simp only[lap];unfold AkE
    split
    .rename_i es hb
     have hb':=AcX hb
     cases hik:isKeyT P kt ka with
     | false=>trivial
     | true =>
      simp only[lai]
      cases hf:mfindT P kt ka es 0 with
      | none=>trivial
      | some r =>
       rw[AhG]at hf;have key:=fun hp:AbY P kt=true=>AqG (c:=c) m ht hb' hx (fun b=>AqD hkt hp hk hik b) (fun en hl hr=>AcG (w:=w) hkt (AvT hkt hp hk) (AqC hik) hl hr hf)
       cases r with
       | none=>exact fun hp=>key hp.1 hp.2
       | some jv=>obtain⟨j,v'⟩:=jv; exact fun hp=>key hp
    .trivial
  .rename_i d id hns hkt hm
   rw[hm]at hx;unfold AkD
   split
   .rename_i es hb
    have hb':=AcX hb
    cases hik:AdA d ka with
    | false=>trivial
    | true =>
     simp only[lai];obtain⟨ik,rk⟩:=AhE hik hk
     cases hf:mfind d ka es 0 with
     | none=>unfold AkB; trivial
     | some r =>
      have key:=AqG (c:=c) m ht hb' hx (fun b=>MapKept.run_checkKey hkt ik b 9999) (fun en hl hr=>AfI (w:=w) hkt hik hk hl hr hf)
      cases r with
      | none=>exact key
      | some jv=>obtain⟨j,v'⟩:=jv; exact key
   .trivial
  .trivial
 .trivial
theorem AqH{t:TypeId}{x k:Operand}{o:Oper}{e:Env}{a:Act}(ho:o.op=.mapEntry t x k)(m:Mine h ρ sto w)(he:EnvOk h ρ sto e a) :
  Lc P h ρ sto w ((execOp a.eval o).run P w) (AfY P sto (ev e x) (ev e k) (P.underlying t)):=by
 have hx:=AaF he x;have hk:=AaF he k;have hrun:(execOp a.eval o).run P w=((Instr.mapEntry t (a.eval x) (a.eval k)).run P w).andThen fun v w'=>.ok (.value v) w':=by
  simp[execOp,ho]
 rw[hrun];generalize a.eval x=ux at *;generalize a.eval k=uk at *;generalize ev e k=ka at *;unfold AfY
 split
 .rename_i kt et ht
  split
  .trivial
  .rename_i d id hns hkt hm
   rw[hm]at hx;unfold AfF
   split
   .rename_i es hb
    have hb':=AcX hb
    cases hik:AdA d ka with
    | false=>trivial
    | true =>
     simp only[lai];obtain⟨ik,rk⟩:=AhE hik hk;have hc:(Instr.checkKey false 10000 kt uk).run P w=.ok () w:=MapKept.run_checkKey hkt ik false 9999;obtain⟨g,en,clock,rfl,hg,o2,o3,o4,o5⟩:=AkK m hb' hx;unfold AfE
     split
     .rename_i i vo hf
      intro _;obtain⟨p,hp,y,z,f1,f3,f4,f5,f6,f7⟩:=AfI (w:=w) hkt hik hk o3 o4 hf;have f3':en[p]? = some y:=by simpa using f3
      have hrv:=o4 p z y f4 f3;subst f5;obtain⟨hs1,hs2⟩:=AhT (x:=(ka,z.2)) (AdZ hik) (i:=0) (p:=p) (j:=i) (by rw[lbc]; exact hp);obtain⟨m',l'⟩:=AeA m hb' hg o2 (en':=en.modify p fun e=>{ e with key:=uk }) (clock':=clock) (es':=es.set i (ka,z.2)) (by rw[hs1]; simpa using o3) (by rw[hs1]; exact o4.set (fun y' hy'=>by
       rw[f3]at hy'; cases hy'; exact⟨rk,hrv.2⟩)) (o5.modify p _ (by simp) (hs2 0) (fun _ _=>rfl) (fun y' hy'=>by
       rw[f3]at hy'; cases hy'; exact f6.symm))
      have hborn:y.born=i:=by
       have:=o5.2.1 p y f3;rw[hp]at this;exact(Option.some.inj this).symm
      refine⟨_,_,_,_,.inl ?_,m',l',.tup [y.val,goInt (i:Nat)] [_,_] (.cons (hrv.2.mono l'.hle l'.keep) (.cons (.int _ _) .nil))⟩
      simp[Instr.mapEntry,run_underlying ht,MapKept.run_getObj_map o2,hc,f1,f3',f6,Instr.keyThatStays,f7,MapKept.run_setObj_map _ o2,Result.andThen,hborn]
     .rename_i hf
      intro hz;obtain⟨f1,f2⟩:=AfI (w:=w) hkt hik hk o3 o4 hf;obtain⟨zv,hz1,hz2⟩:=AvV (w:=w) hz;have hla:lvs (es++[(ka,zval P et)])=lvs es++[(ka,zval P et)]:=by rw[ApN]; simp[lvs,AdZ hik]
      obtain⟨m',l'⟩:=AeA m hb' hg o2 (en':=en.push { key:=uk,val:=zv,born:=clock }) (clock':=clock+1) (es':=es++[(ka,zval P et)]) (by rw[hla]; simpa using o3) (by rw[hla]; exact o4.push o3 rk hz2) (o5.push o3 (x:=(ka,zval P et)) (AdZ hik) f2);have hcl:clock=es.length:=o5.1;refine⟨_,_,_,_,.inl ?_,m',l',.tup [zv,goInt (clock:Nat)] [_,_] (.cons hz2 (.cons (by rw[hcl]; exact .int _ _) .nil))⟩
      simp[Instr.mapEntry,run_underlying ht,MapKept.run_getObj_map o2,hc,f1,hz1,MapKept.run_setObj_map _ o2,Result.andThen]
     .trivial
   .trivial
  .trivial
 .trivial
theorem AnU{en:Array MapEntry}{clock n p:Nat}{es:List (AV×AV)}(h:EnOk en clock es)(hl:en.toList.length=(lvs es).length)(hp:(ixs 0 es)[p]? = some n):en.findIdx? (fun e=>(e.born:Int)==(n:Int))=some p:=by
 have hpl:p<en.toList.length:=by
  have:=(List.getElem?_eq_some_iff.1 hp).1;rw[AlC]at this;omega
 rw[Array.findIdx?_eq_some_iff_getElem];refine⟨by simpa using hpl,?_,fun j hj=>?_⟩
 .have:=h.2.1 p _ (las hpl)
  rw[hp]at this;have:=Option.some.inj this
  simp at this |-
  omega
 .have hj':j<en.toList.length:=by omega
  have:=h.2.1 j _ (las hj');simp only[Array.getElem_toList]at this;simp only[beq_iff_eq,Bool.not_eq_true,beq_eq_false_iff_ne,ne_eq];intro e;have e':en[j].born=n:=by omega
  rw[e']at this;have:=A6K this hp;omega
theorem AlP{t:TypeId}{x n v:Operand}{o:Oper}{e:Env}{a:Act}(ho:o.op=.entryStore t x n v)(m:Mine h ρ sto w)(he:EnvOk h ρ sto e a) :
  Lc P h ρ sto w ((execOp a.eval o).run P w) (AfZ sto (ev e x) (ev e n) (ev e v)):=by
 have hx:=AaF he x;have hn:=AaF he n;have hv:=AaF he v;have hrun:(execOp a.eval o).run P w=((Instr.entryStore t (a.eval x) (a.eval n) (a.eval v)).run P w).andThen fun _ w'=>.ok .skip w':=by
  simp[execOp,ho]
 rw[hrun];generalize a.eval x=ux at *;generalize a.eval n=un at *;generalize a.eval v=uv at *;generalize ev e v=va at *;unfold AfZ
 split
 .rename_i id n hm hn'
  rw[hm]at hx;rw[hn']at hn;unfold AfG
  split
  .rename_i es hb
   have hb':=AcX hb;intro hp;obtain⟨g,en,clock,rfl,hg,o2,o3,o4,o5⟩:=AkK m hb' hx;have hlt':n.toNat<es.length:=by omega
   have hgd:es.getD n.toNat (.any,.any)=es[n.toNat]:=by rw[lam,las hlt',Option.getD_some]
   have hlv:=hp.2.2;rw[hgd]at hlv |-;obtain⟨p,hp1,hp2⟩:=AuU (i:=0) (las hlt') hlv;rw[lbc]at hp1;have hfi:=AnU o5 o3 hp1;have hni:((n.toNat:Nat):Int)=n:=by omega
   rw[hni]at hfi;obtain⟨hs1,hs2⟩:=AhT (x:=(es[n.toNat].1,va)) hlv (i:=0) (p:=p) (j:=n.toNat) (by rw[lbc]; exact hp1);obtain⟨m',l'⟩:=AeA m hb' hg o2 (en':=en.modify p fun e=>{ e with val:=uv }) (clock':=clock) (es':=es.set n.toNat (es[n.toNat].1,va)) (by rw[hs1]; simpa using o3) (by rw[hs1]; exact o4.set (fun y' hy'=>by
    have h1:=o4 p es[n.toNat] y' hp2 hy';exact⟨h1.1,hv⟩)) (o5.modify _ _ (by simp) (hs2 0) (fun _ _=>rfl) (fun y' hy'=>rfl))
   refine⟨_,_,_,_,.inr ⟨?_,rfl⟩,m',l',.raw _⟩;have hi:=AaE hn;subst hi
   simp[Instr.entryStore,MapKept.run_getObj_map o2,asInt,asIntOf,hfi,MapKept.run_setObj_map _ o2,Result.andThen]
  .trivial
 .trivial
theorem AzG{t:TypeId}{x:Operand}{o:Oper}{e:Env}{a:Act}(ho:o.op=.range t x)(m:Mine h ρ sto w)(he:EnvOk h ρ sto e a) :
  Lc P h ρ sto w ((execOp a.eval o).run P w) (AkF sto (ev e x) (P.underlying t)):=by
 have hx:=AaF he x;have hrun:(execOp a.eval o).run P w=((Instr.range t (a.eval x)).run P w).andThen fun v w'=>.ok (.value v) w':=by
  simp[execOp,ho]
 rw[hrun];generalize a.eval x=ux at *;unfold AkF
 split
 .rename_i kt et ht
  split
  .rename_i mid hm
   rw[hm]at hx;unfold AiB
   split
   .rename_i es hb
    have hb':=AcX hb;intro _;obtain⟨g,en,clock,rfl,hg,o2,o3,o4,o5⟩:=AkK m hb' hx;have hcl:clock=es.length:=o5.1;have hmid:=(List.getElem?_eq_some_iff.1 hb').1;have hlf:Lf (upd ρ sto.length (some (w.heap.size,0))) (sto++[.it mid es.length []]) (.map (some g)) (.mp mid):=by
     refine⟨rfl,?_⟩;simp only[LfC,lao hmid,hb'];exact⟨g,by simp[upd,Nat.ne_of_lt hmid,hg],rfl⟩
    have hm:=m.push (.mapIter (some g) clock #[] clock) (.it mid es.length []) (some 0) ⟨w.heap.size,g,by simp[upd],by rw[hcl]; exact Go.heap_alloc_new w _,hlf,by simp,by simp⟩;refine⟨.pointer (some ⟨w.heap.size,0,none⟩),_,_,_,.inl ?_,hm.1,hm.2,.leaf ⟨rfl,?_⟩⟩
    .show _=Result.ok (Next.value (.pointer (some ⟨w.heap.size,0,none⟩))) _
     rw[run_range_map w t kt et g en clock ht o2];rfl
    .simp [LfC,upd]
   .trivial
  .trivial
 .trivial
theorem A6T{id mid n:Nat}{seen:List Nat}(hb:sto.getD id .dead=.it mid n seen):sto[id]? = some (.it mid n seen):=by
 rw[lam]at hb
 cases hq:sto[id]? with
 | none=>simp[hq]at hb
 | some b=>simp[hq]at hb; rw[hb]
theorem A6U(m:Mine h ρ sto w){id mid n:Nat}{seen:List Nat}{es:List (AV×AV)}{u:Value}{fl:Bool}(hb:sto[id]? = some (.it mid n seen))(hb2:sto[mid]? = some (.mp es))(r:RV h (Lf ρ sto) fl u (.mp id)) :
  ∃ r' g en clock,u=.pointer (some ⟨r',0,none⟩)/\ρ id=some (r',0)/\w.heap[r']? = some (.mapIter (some g) n seen.toArray n)/\seen.Nodup/\(∀ j∈seen,j<n)/\ρ mid=some (g,0)/\w.heap[g]? = some (.map en clock)/\en.toList.length=(lvs es).length/\EnRel h ρ sto (lvs es) en.toList/\EnOk en clock es:=by
 have hl:=(AgT r).2;simp only[LfC,hb]at hl;obtain⟨r',hr,rfl⟩:=hl;obtain⟨r2,g,i1,i2,i3,i4,i5⟩:=m.own id _ hb;have:r2=r':=by rw[hr]at i1; simpa using i1.symm
 subst this;have i3':=i3.2;simp only[LfC,hb2]at i3';obtain⟨g',hg,e⟩:=i3';have:g'=g:=by simpa using e.symm
 subst this;obtain⟨g2,en,clock,o1,o2,o3,o4,o5⟩:=m.own mid _ hb2;have:g2=g':=by rw[hg]at o1; simpa using o1.symm
 subst this;exact⟨r2,g2,en,clock,rfl,hr,i2,i4,i5,hg,o2,o3,o4,o5⟩
theorem AzH{x:Operand}{o:Oper}{e:Env}{a:Act}(ho:o.op=.entry x)(m:Mine h ρ sto w)(he:EnvOk h ρ sto e a) :
  Lc P h ρ sto w ((execOp a.eval o).run P w) (AkG sto (ev e x)):=by
 have hx:=AaF he x;have hrun:(execOp a.eval o).run P w=((Instr.entry (a.eval x)).run P w).andThen fun v w'=>.ok (.value v) w':=by
  simp[execOp,ho]
 rw[hrun];generalize a.eval x=ux at *;unfold AkG
 split
 .rename_i id hm
  rw[hm]at hx;unfold AiD
  split
  .rename_i mid n seen hb
   unfold AiC
   split
   .rename_i es hb2
    intro hp;obtain⟨hne,hn,hlv⟩:=hp;obtain⟨r',g,en,clock,rfl,hr,i2,i4,i5,hg,o2,o3,o4,o5⟩:=A6U m (A6T hb) (AcX hb2) hx;have hcl:clock=n:=by rw[o5.1,hn]
    obtain⟨l0,j',hs⟩:∃ l0 j,seen=l0++[j]:=⟨seen.dropLast,seen.getLast hne,(List.dropLast_concat_getLast hne).symm⟩;have hj:j'<n:=i5 j' (by rw[hs]; simp);have hjs:j'<es.length:=by omega
    have hgl:seen.getLastD 0=j':=by rw[hs]; simp
    rw[hgl,lam,las hjs,Option.getD_some]at hlv;obtain⟨j,hp1,hp2⟩:=AuU (i:=0) (las hjs) hlv;rw[lbc]at hp1;have hje:j<en.toList.length:=by
     have:=(List.getElem?_eq_some_iff.1 hp2).1;omega
    have hborn:en.toList[j].born=j':=by
     have:=o5.2.1 j _ (las hje);rw[hp1]at this;exact(Option.some.inj this).symm
    have hnod:(en.toList.map (·.born)).Nodup:=by
     have:en.toList.map (·.born)=ixs 0 es:=by
      apply List.ext_getElem (by rw[AlC]; simpa using o3);intro i h1 h2;simp only[List.getElem_map];have h1':i<en.toList.length:=by simpa using h1
      have:=o5.2.1 i _ (las h1');rw[las h2]at this;exact(Option.some.inj this).symm
     rw[this];exact(AhS es 0).1.imp fun h=>Nat.ne_of_lt h
    have hrel:=o4 j _ _ hp2 (las hje);rw[hgl,lam,las hjs,Option.getD_some];refine AaA m (u:=.tuple #[en.toList[j].key,en.toList[j].val]) ?_ (.tup [_,_] [_,_] (.cons (hrel.1.thaw (fun _ _ _ x=>x)) (.cons hrel.2 .nil)));have hrun2:=run_entry_at (P:=P) w r' g n l0.toArray en clock en.toList[j] (by rw[i2,hs,hcl,hborn]; simp) o2 (lae hje) hnod;rw[hrun2];rfl
   .trivial
  .trivial
 .trivial
end
