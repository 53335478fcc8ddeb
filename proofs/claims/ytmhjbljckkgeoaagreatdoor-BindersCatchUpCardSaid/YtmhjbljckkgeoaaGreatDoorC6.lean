/- Maps of one's own: made, written, read. -/
import Derived.Test.YtmhjbljckkgeoaaGreatDoorC5
import Derived.WideMake
import Derived.Laws.StructEq
import Derived.Laws.Cover3
import Derived.Maps.RangeRun
set_option linter.all false
namespace Go.Av
open RowKit
variable [Tr]
section
variable {h:Mem}{ρ:Own}{sto:LB}{w:World}{P:Program}
theorem ba_beq(s t:LU):((⟨s.toArray⟩:ByteArray)==⟨t.toArray⟩)=(s==t):=by
 show(s.toArray==t.toArray)=(s==t)
 simp
theorem BqM{t:TypeId}{x:Operand}{o:Oper}{e:Env}{a:Act}(ho:o.op=.box t x)(m:Mine h ρ sto w)(he:EnvOk h ρ sto e a) :
  Lt P h ρ sto w ((execOp a.eval o).run P w) (BiK (isRow (P.underlying t)) (ev e x)):=by
 have hx:=AaS he x;have hrun:(execOp a.eval o).run P w=.ok (.value (.pointer (some ⟨w.heap.size,0,none⟩))) (w.alloc (.cells (a.eval x).cells t)):=by
  simp_all[execOp,Instr.box,newVar,newRow]
 rw[hrun];generalize a.eval x=u at *;have key:∀ (y:AV) (vs:List Value) (l:LY),u.cells=vs.toArray->cellsOf y=l->RL h (Lf ρ sto) false vs l->l.all frozen=true->l.all one=true->0<l.length ->
   Okv h ρ sto w (.ok (.value (.pointer (some ⟨w.heap.size,0,none⟩))) (w.alloc (.cells u.cells t))) (.pin l.length [y] 0 0) sto:=by
  intro y vs l hu hy rl hf h1 hl;have hone:∀ v∈vs,v.oneCell'=true:=by
   intro v hv;obtain⟨k,hk,e⟩:=List.getElem_of_mem hv;have hkl:k<l.length:=by have:=rl.length; omega
   obtain⟨v',e1,r1⟩:=rl.get (lam hkl)
   grind[AiM]
  obtain⟨m',l'⟩:=m.freezeNew vs t hone;rw[hu];refine⟨_,_,_,_,.inl rfl,m',l',?_⟩;have:=RV.pin (fl:=false) w.heap.size 0 l.length [y] vs 0 0 (by
   simp only[flat,lbp,hy];exact(AdV rl hf).mono l'.hle (fun _ _ x=>x)) (by grind) (fun k v hk=>by grind[Mem.add]) (by simp)
  grind
 unfold BiK
 split
 .rename_i l h1 h2
  rw[h2]at hx;obtain⟨vs,rfl,rl⟩:=inv_agg hx;intro hp;exact key _ vs l (by simp[Value.cells]) rfl rl hp.2.1 hp.2.2 hp.1
 .cases hv:one (ev e x)with
  | false=>trivial
  | true =>
   cases hf:frozen (ev e x)with
   | false=>trivial
   | true =>
    have hc:=AlW hx (by grind[AaX]);rw[AaX hv]at hc;exact key _ _ _ (by simp) (AaX hv) hc (by grind) (by grind) (by simp)
 .trivial
theorem BqN{b:Bool}{t:TypeId}{x:Operand}{o:Oper}{e:Env}{a:Act}(ho:o.op=.box t x)(m:Mine h ρ sto w)(he:EnvOk h ρ sto e a) :
  Lt P h ρ sto w ((execOp a.eval o).run P w) (BpX b (isRow (P.underlying t)) sto (ev e x)):=by
 cases b with
 | true=>exact BqM ho m he
 | false=>exact BvA ho m he
theorem A6U{t:TypeId}{o:Oper}{a:Act}(ho:o.op=.makeMap t none)(m:Mine h ρ sto w):Lt P h ρ sto w ((execOp a.eval o).run P w) (BaD sto):=by
 intro _;have hr:(execOp a.eval o).run P w=.ok (.value (.map (some w.heap.size))) (w.alloc (.map #[] 0)):=by
  simp_all[execOp,run_makeMap_plain]
 have hm:=m.push (.map #[] 0) (.mp []) (some 0) ⟨w.heap.size,#[],0,by simp[upd],(MapKept.heap_alloc w _).1,rfl,by simp⟩;exact⟨_,_,_,_,.inl hr,hm.1,hm.2,.leaf ⟨rfl,by grind[LfC,upd]⟩⟩
theorem A3N{d:TypeDesc}{k:AV}{u:Value}{fl:Bool}(hk:AvF d k=true)(r:RV h (Lf ρ sto) fl u k):MapKept.IsKey d u/\∀ {h':Mem}{Lf':Value->AV->Prop}{f:Bool},RV h' Lf' f u k:=by
 cases k <;> cases d <;> simp[AvF]at hk
 .subst hk
  rw[AaW r];exact⟨rfl,.int _ _⟩
 .rw [AbY r]
  exact⟨trivial,.bool _⟩
 .rw [AbO r]
  exact⟨trivial,.str _⟩
theorem A3O{d:TypeDesc}{k k':AV}{u u':Value}{fl fl':Bool}{b:Bool}(hk:keyEq d k k'=some b)(r:RV h (Lf ρ sto) fl u k)(r':RV h (Lf ρ sto) fl' u' k'):Instr.sameNow d u u'=some b/\(b=true->Instr.sameBits 10000 u' u=true):=by
 cases d <;> cases k <;> cases k' <;> simp[keyEq]at hk
 .subst hk
  rw[AbY r,AbY r'];exact⟨rfl,fun hb=>by grind[Instr.sameBits]⟩
 .rw [AaW r,AaW r']
  grind[Instr.sameNow,Instr.sameBits]
 .rw [AbO r,AbO r']
  grind[Instr.sameNow,ba_beq,Instr.sameBits]
theorem A3P{d:TypeDesc}{k:AV}{u:Value}{fl:Bool}(r:RV h (Lf ρ sto) fl u k):∀ {es:List (AV×AV)}{en:List MapEntry}{i:Nat}{x:Option (Nat×AV)},en.length=es.length ->
  (∀ (j:Nat) (x:AV×AV) (y:MapEntry),es[j]? = some x->en[j]? = some y->RV h (Lf ρ sto) true y.key x.1/\RV h (Lf ρ sto) false y.val x.2)->mfind d k es i=some x ->
  match x with
  | none=>Instr.findNow d u en i=some none
  | some (j,v)=>∃ (y:MapEntry) (z:AV×AV),Instr.findNow d u en i=some (some (j,y.val))/\i<=j/\en[j-i]? = some y/\es[j-i]? = some z/\z.2=v/\Instr.sameBits 10000 y.key u=true
 | [],en,i,x,hl,_,hx=>by
  simp only[mfind,lbr]at hx;subst hx;have:en=[]:=lbn (by omega);subst this; rfl
 | z::es,[],i,x,hl,_,_=>by grind
 | z::es,y::en,i,x,hl,hr,hx=>by
  have h0:=hr 0 z y rfl rfl;simp only[mfind]at hx
  split at hx
  .rename_i hq
   obtain⟨s1,s2⟩:=A3O hq r h0.1
   simp at hx
   subst hx;exact⟨y,z,by simp[Instr.findNow,s1],lab _,by simp,by simp,rfl,s2 rfl⟩
  .rename_i hq
   obtain⟨s1,_⟩:=A3O hq r h0.1;have ih:=A3P r (by simpa using hl) (fun j a b h1 h2=>hr (j+1) a b h1 h2) hx
   cases x with
   | none=>simpa[Instr.findNow,s1]using ih
   | some jv =>
    obtain⟨j,v⟩:=jv;obtain⟨y',z',i1,i2,i3,i4,i5,i6⟩:=ih;have e:j-i=(j-(i+1))+1:=by omega
    exact⟨y',z',by simpa[Instr.findNow,s1]using i1,by omega,by rw[e]; simpa using i3,by rw[e]; simpa using i4,i5,i6⟩
  .cases hx
def KF(P:Program)(kt:TypeId)(w:World)(es:List (AV×AV))(en:List MapEntry)(u:Value):Option (Nat×AV)->Prop
 | none=>(Instr.findKey kt u en).run P w=.ok none w
 | some (j,v)=>∃ (y:MapEntry) (z:AV×AV),(Instr.findKey kt u en).run P w=.ok (some (j,y.val)) w/\en[j]? = some y/\es[j]? = some z/\z.2=v/\y.key=u/\Instr.sameBits 10000 u u=true
def EnRel(h:Mem)(ρ:Own)(sto:LB)(es:List (AV×AV))(en:List MapEntry):Prop :=
 ∀ (j:Nat) (x:AV×AV) (y:MapEntry),es[j]? = some x->en[j]? = some y->RV h (Lf ρ sto) true y.key x.1/\RV h (Lf ρ sto) false y.val x.2
theorem BjG{d:TypeDesc}{k k':AV}{u u':Value}{fl fl':Bool}(hk:keyEq d k k'=some true)(r:RV h (Lf ρ sto) fl u k)(r':RV h (Lf ρ sto) fl' u' k'):u'=u:=by
 cases d <;> cases k <;> cases k' <;> simp[keyEq]at hk
 .rw [AbY r,AbY r',hk]
 .rw [AaW r,AaW r']
  grind
 .rw [AbO r,AbO r',hk]
theorem BaN{kt:TypeId}{d:TypeDesc}(hkt:P.underlying kt=some d){k:AV}{u:Value}{fl:Bool}(r:RV h (Lf ρ sto) fl u k){es:List (AV×AV)}{en:List MapEntry}(hl:en.length=es.length)(hr:EnRel h ρ sto es en)
  {x:Option (Nat×AV)} (hx:mfind d k es 0=some x):KF P kt w es en u x:=by
 have f:=A3P r hl hr hx
 cases x with
 | none=>exact MapKept.run_findKey hkt f
 | some jv =>
  obtain⟨j,v⟩:=jv;obtain⟨y,z,f1,f2,f3,f4,f5,f6⟩:=f;have he:y.key=u:=by
   have key:∀ (es:List (AV×AV)) (i:Nat),mfind d k es i=some (some (j,v))->∀ z,es[j-i]? = some z->i<=j->keyEq d k z.1=some true:=by
    intro es
    induction es with
    | nil=>grind
    | cons a es ih =>
     intro i h z hz hij;simp only[mfind]at h
     split at h
     .grind
     .have hne:i+1<=j:=by
       have:∀ (es:List (AV×AV)) (i:Nat),mfind d k es i=some (some (j,v))->i<=j:=by
        intro es
        induction es<;>grind[mfind]
       grind
      grind
     grind
   exact BjG (key es 0 hx z f4 (Nat.zero_le _)) r (hr j z y f4 f3).1
  exact⟨y,z,MapKept.run_findKey hkt f1,f3,f4,f5,he,by grind⟩
theorem A3Q(m:Mine h ρ sto w){id g clock clock':Nat}{en en':Array MapEntry}{es es':List (AV×AV)}(hb:sto[id]? = some (.mp es))(hg:ρ id=some (g,0))(o2:w.heap[g]? = some (.map en clock))
  (hlen:en'.toList.length=es'.length) (hrel:EnRel h ρ sto es' en'.toList) :
  Mine h ρ (sto.set id (.mp es')) { w with heap:=w.heap.setIfInBounds g (.map en' clock') }/\Later h ρ sto w h ρ (sto.set id (.mp es')) { w with heap:=w.heap.setIfInBounds g (.map en' clock') }:=by
 obtain⟨hs1,hs2⟩:=MapKept.heap_set o2;refine m.write hb hg trivial rfl rfl ⟨rfl,Tr.same rfl⟩ (by simp) (fun k' hk'=>hs2 k' hk') ?_;refine⟨g,en',clock',hg,hs1,hlen,fun j x y h1 h2=>?_⟩;obtain⟨p,q⟩:=hrel j x y h1 h2;have hkp:∀ v a,Lf ρ sto v a->Lf ρ (sto.set id (.mp es')) v a:=fun v a lf=>⟨lf.1,AbI hb (fun _ _=>rfl) rfl lf.2⟩
 exact⟨p.mono (fun _ _ _ x=>x) hkp,q.mono (fun _ _ _ x=>x) hkp⟩
theorem EnRel.set{es:List (AV×AV)}{en:Array MapEntry}(r:EnRel h ρ sto es en.toList){i:Nat}{ka va:AV}{f:MapEntry->MapEntry}(hf:∀ y,en.toList[i]? = some y->RV h (Lf ρ sto) true (f y).key ka/\RV h (Lf ρ sto) false (f y).val va):EnRel h ρ sto (es.set i (ka,va)) (en.modify i f).toList:=by
 intro j x' y' h1 h2;rw[lbm,Array.getElem?_modify]at h2
 by_cases hj:i=j
 .grind
 .rw [lbv hj]at h1
  exact r j x' y' h1 (by grind)
theorem EnRel.push{es:List (AV×AV)}{en:Array MapEntry}(r:EnRel h ρ sto es en.toList)(hl:en.toList.length=es.length){ka va:AV}{y:MapEntry}(hk:RV h (Lf ρ sto) true y.key ka)(hv:RV h (Lf ρ sto) false y.val va):EnRel h ρ sto (es++[(ka,va)]) (en.push y).toList:=by
 intro j x' y' h1 h2;rw[Array.toList_push]at h2
 by_cases hj:j<es.length
 .rw [lbz hj]at h1
  rw[lbz (by omega)]at h2;exact r j x' y' h1 h2
 grind
theorem BoL{id:Nat}{es:List (AV×AV)}(hb:sto.getD id .dead=.mp es):sto[id]? = some (.mp es):=by
 grind
theorem BoM(m:Mine h ρ sto w){id:Nat}{es:List (AV×AV)}{u:Value}{fl:Bool}(hb:sto[id]? = some (.mp es))(r:RV h (Lf ρ sto) fl u (.mp id)) :
  ∃ g en clock,u=.map (some g)/\ρ id=some (g,0)/\w.heap[g]? = some (.map en clock)/\en.toList.length=es.length/\EnRel h ρ sto es en.toList:=by
 have hl:=(AlA r).2;simp only[LfC,hb]at hl;obtain⟨g,hg,rfl⟩:=hl;obtain⟨g',en,clock,o1,o2,o3,o4⟩:=m.own id _ hb;have:g'=g:=by grind
 subst this;exact⟨g',en,clock,rfl,hg,o2,o3,o4⟩
theorem BvI{t kt et:TypeId}(m:Mine h ρ sto w){id:Nat}{es:List (AV×AV)}{um uk uv:Value}{ka va:AV}(ht:P.underlying t=some (.map kt et))(hb:sto[id]? = some (.mp es))(hm:RV h (Lf ρ sto) false um (.mp id))
  (hc:(Instr.checkKey false 10000 kt uk).run P w=.ok () w) (rk:RV h (Lf ρ sto) true uk ka) (hv:RV h (Lf ρ sto) false uv va) {x:Option (Nat×AV)} (hf:∀ en:List MapEntry,en.length=es.length->EnRel h ρ sto es en->KF P kt w es en uk x) :
  Okv h ρ sto w (((Instr.mapUpdate t um uk uv).run P w).andThen fun _ w'=>.ok .skip w') (.raw undef) (sto.set id (.mp (match x with|some (i,_)=>es.set i (ka,va)|none=>es++[(ka,va)]))):=by
 obtain⟨g,en,clock,rfl,hg,o2,o3,o4⟩:=BoM m hb hm;have f:=hf en.toList o3 o4
 cases x with
 | none =>
  obtain⟨m',l'⟩:=A3Q m hb hg o2 (en':=en.push { key:=uk,val:=uv,born:=clock }) (clock':=clock+1) (by grind) (o4.push o3 rk hv);refine⟨_,_,_,_,.inr ⟨?_,rfl⟩,m',l',.raw _⟩
  simp[Instr.mapUpdate,run_underlying ht,MapKept.run_getObj_map o2,hc,show(Instr.findKey kt uk en.toList).run P w=.ok none w from f,MapKept.run_setObj_map _ o2,Result.andThen]
 | some jv =>
  obtain⟨j,v⟩:=jv;obtain⟨y,z,f1,f3,f4,f5,f6,f7⟩:=f;have f3':en[j]? = some y:=by grind
  obtain⟨m',l'⟩:=A3Q m hb hg o2 (en':=en.modify j fun e=>{ e with key:=uk,val:=uv }) (clock':=clock) (by grind) (o4.set (fun _ _=>⟨rk,hv⟩));refine⟨_,_,_,_,.inr ⟨?_,rfl⟩,m',l',.raw _⟩
  simp[Instr.mapUpdate,run_underlying ht,MapKept.run_getObj_map o2,hc,f1,f3',f6,Instr.keyThatStays,f7,MapKept.run_setObj_map _ o2,Result.andThen]
theorem AvS{t:TypeId}{x k v:Operand}{o:Oper}{e:Env}{a:Act}(ho:o.op=.mapUpdate t x k v)(m:Mine h ρ sto w)(he:EnvOk h ρ sto e a) :
  Lt P h ρ sto w ((execOp a.eval o).run P w) (BiU P sto (ev e x) (ev e k) (ev e v) (P.underlying t)):=by
 have hx:=AaS he x;have hk:=AaS he k;have hv:=AaS he v;have hrun:(execOp a.eval o).run P w=((Instr.mapUpdate t (a.eval x) (a.eval k) (a.eval v)).run P w).andThen fun _ w'=>.ok .skip w':=by
  simp_all[execOp]
 rw[hrun];generalize ev e k=ka at *;generalize ev e v=va at *;unfold BiU
 split
 .rename_i kt et ht
  split
  .rename_i d id hkt hm
   rw[hm]at hx;unfold BaE
   split
   .rename_i es hb
    have hb':=BoL hb
    cases hik:AvF d ka with
    | false=>trivial
    | true =>
     obtain⟨ik,rk⟩:=A3N hik hk
     cases hf:mfind d ka es 0 with
     | none=>trivial
     | some r =>
      have key:=BvI m ht hb' hx (MapKept.run_checkKey hkt ik false 9999) rk hv (fun en hl hr=>BaN hkt hk hl hr hf)
      cases r with
      | none=>exact fun _=>key
      | some jv=>exact fun _=>key
   .trivial
  .trivial
 .trivial
theorem BqO{t:TypeId}(hz:zok P t=true):∃ v,(zeroValue t).run P w=.ok v w/\∀ {h:Mem}{L:Value->AV->Prop},RV h L false v (zval P t):=by
 unfold zok at hz
 cases hq:P.info? t with
 | none=>grind
 | some i =>
  cases hq2:i.zero with
  | none=>grind
  | some zv =>
   refine⟨zv,by simp_all[zeroValue,typeInfo],fun{h L}=>?_⟩;simp only[zval,hq,hq2,Option.bind_some];have hcs:∀ vs:List Value,RL h L false vs (vs.map AdT):=by
    intro vs
    induction vs with
    | nil=>exact .nil
    | cons v vs ih =>
     refine .cons ?_ ih
     cases v <;> first|exact .int _ _|exact .bool _|exact .str _|exact .raw _
   cases zv <;> first|exact .agg _ _ (hcs _)|exact .int _ _|exact .bool _|exact .str _|exact .raw _
theorem BqP{t kt et:TypeId}{c:Bool}(m:Mine h ρ sto w){id:Nat}{es:List (AV×AV)}{um uk:Value}(ht:P.underlying t=some (.map kt et))(hb:sto[id]? = some (.mp es))(hm:RV h (Lf ρ sto) false um (.mp id))
  (hc:∀ b,(Instr.checkKey b 10000 kt uk).run P w=.ok () w) {x:Option (Nat×AV)} (hf:∀ en:List MapEntry,en.length=es.length->EnRel h ρ sto es en->KF P kt w es en uk x) :
  match x with
  | some (_,v)=>Okv h ρ sto w (((Instr.lookup t um uk c).run P w).andThen fun v w'=>.ok (.value v) w') (bif c then .tup [v,.bool true] else v) sto
  | none=>zok P et=true->Okv h ρ sto w (((Instr.lookup t um uk c).run P w).andThen fun v w'=>.ok (.value v) w') (bif c then .tup [zval P et,.bool false] else zval P et) sto:=by
 obtain⟨g,en,clock,rfl,hg,o2,o3,o4⟩:=BoM m hb hm;have f:=hf en.toList o3 o4
 cases x with
 | none =>
  intro hz;obtain⟨zv,hz1,hz2⟩:=BqO (w:=w) hz;refine AaB m (u:=if c then .tuple #[zv,.bool false] else zv) ?_ ?_
  .simp [Instr.lookup,run_underlying ht,MapKept.run_getObj_map o2,hc,show(Instr.findKey kt uk en.toList).run P w=.ok none w from f,hz1,Result.andThen]
  .cases c with
   | true=>exact .tup [_,_] [_,_] (.cons hz2 (.cons (.bool _) .nil))
   | false=>grind
 | some jv =>
  obtain⟨j,v⟩:=jv;obtain⟨y,z,f1,f3,f4,f5,f6,f7⟩:=f;obtain⟨_,q⟩:=o4 j z y f4 f3;subst f5;refine AaB m (u:=if c then .tuple #[y.val,.bool true] else y.val) ?_ ?_
  .simp [Instr.lookup,run_underlying ht,MapKept.run_getObj_map o2,hc,f1,Result.andThen]
  .cases c with
   | true=>exact .tup [_,_] [_,_] (.cons q (.cons (.bool _) .nil))
   | false=>exact q
theorem BaO{t:TypeId}{x k:Operand}{c:Bool}{o:Oper}{e:Env}{a:Act}(ho:o.op=.lookup t x k c)(m:Mine h ρ sto w)(he:EnvOk h ρ sto e a) :
  Lt P h ρ sto w ((execOp a.eval o).run P w) (AvG P sto (ev e x) (ev e k) c (P.underlying t)):=by
 have hx:=AaS he x;have hk:=AaS he k;have hrun:(execOp a.eval o).run P w=((Instr.lookup t (a.eval x) (a.eval k) c).run P w).andThen fun v w'=>.ok (.value v) w':=by
  simp_all[execOp]
 rw[hrun];generalize ev e k=ka at *;unfold AvG
 split
 .rename_i kt et ht
  split
  .rename_i d id hkt hm
   rw[hm]at hx;unfold A3K
   split
   .rename_i es hb
    have hb':=BoL hb
    cases hik:AvF d ka with
    | false=>trivial
    | true =>
     obtain⟨ik,rk⟩:=A3N hik hk
     cases hf:mfind d ka es 0 with
     | none=>trivial
     | some r =>
      have key:=BqP (c:=c) m ht hb' hx (fun b=>MapKept.run_checkKey hkt ik b 9999) (fun en hl hr=>BaN hkt hk hl hr hf)
      cases r with
      | none=>exact key
      | some jv=>exact key
   .trivial
  .trivial
 .trivial
end
end Go.Av
namespace Go.Av
open RowKit
variable [Tr]
section
variable {h:Mem}{ρ:Own}{sto:LB}{w:World}{P:Program}{e:Env}{a:Act}
theorem BqQ{t:TypeId}{n c:Operand}{o:Oper}(ho:o.op=.makeSlice t n c)(m:Mine h ρ sto w)(he:EnvOk h ρ sto e a) :
  Lt P h ρ sto w ((execOp a.eval o).run P w) (BiT P sto (P.underlying t) (ev e n) (ev e c)):=by
 have hrun:(execOp a.eval o).run P w=((Instr.makeSlice t (a.eval n) (a.eval c)).run P w).andThen fun v w'=>.ok (.value v) w':=by
  simp_all[execOp]
 have hn:=AaS he n;have hc:=AaS he c;unfold BiT
 split
 .rename_i el kn nn kc cc ht e1 e2
  rw[e1]at hn;rw[e2]at hc;rw[AaW hn,AaW hc]at hrun;intro⟨hp,hz,hrow,hone,h0,h1,h2,h3⟩;obtain⟨i,z,hi,his,hib,hiz,hzc,hzs⟩:=AfU hp hz;have hrm:=run_make w t el i z ht hi hiz kn kc nn cc h0 h1 (by grind) h2;rw[hrm,his]at hrun;have hcells:RL h (Lf ρ sto) false (madeCells z.cells (cc.toNat*tsize P el)).toList (rep (zav P el) cc.toNat):=by
   grind[zeros_ok,madeCells,zav]
  have honec:∀ v∈(madeCells z.cells (cc.toNat*tsize P el)).toList,v.oneCell'=true:=by
   refine AfK hcells ?_;rw[List.all_eq_true]at hone |-;intro x hx;obtain⟨k,hk,rfl⟩:=List.mem_iff_getElem.1 hx;have hk':k<cc.toNat*(zav P el).length:=by grind[rep_len]
   have:=rep_get hk'
   grind
  have hzel:=AmU hz hrow hone;have hm:=m.push (.cells (madeCells z.cells (cc.toNat*tsize P el)) el) (.arr (tsize P el) (List.replicate nn.toNat (A0A (isRow (P.underlying el)) (zav P el)))) (some cc.toNat) (by
   refine .inr ⟨w.heap.size,cc.toNat,_,el,by simp[upd],.of (heap_alloc_new w _),size_madeCells _ _,by grind,by grind[maxLen],hp,?_,honec,?_⟩
   .grind
   .rw [AsG hzel,lbx,<- hz,<- BjF nn.toNat cc.toNat (by omega),hz]
    exact(hcells.take _).mono (fun _ _ _ x=>x) (fun _ _=>AhR))
  refine⟨_,_,_,_,.inl hrun,hm.1,hm.2,.leaf ⟨rfl,?_⟩⟩<;>grind[LfC,upd]
 .trivial
theorem BoN{big:Bool}{c:Call}(hf:c.callee=.builtin (bif big then .max else .min)){o:Oper}(ho:o.op=.call c)(m:Mine h ρ sto w)(he:EnvOk h ρ sto e a) :
  Lt P h ρ sto w ((execOp a.eval o).run P w) (xmax big (evs e c.args.toList)):=by
 unfold xmax
 split
 .rename_i k x k' y hx
  obtain⟨o1,o2,hxy,h1,h2⟩:∃ o1 o2,c.args.toList=[o1,o2]/\ev e o1=.int k x/\ev e o2=.int k' y:=by
   match hq:c.args.toList with
   | []=>grind[evs]
   | [_]=>grind[evs]
   | [o1,o2]=>grind[evs]
   | _::_::_::_=>grind[evs]
  have e1:c.args.map a.eval=#[a.eval o1,a.eval o2]:=by
   grind[Array.toList_map]
  have v1:=AaW (by have:=AaS he o1; rwa [h1]at this);have v2:=AaW (by have:=AaS he o2; rwa [h2]at this)
  by_cases hk:k=k'
  .subst hk
   simp
   refine AaB m ?_ (.int _ _)
   cases big <;> simp[execOp,ho,resolve,hf,invoke,builtin,e1,v1,v2,Builtin.max_,Builtin.min_,Builtin.max2,Builtin.min2]
  .simp only [hk,decide_false,cond_false]; trivial
 .trivial
theorem BvJ{x:Operand}{o:Oper}(ho:o.op=.nilCheck x)(m:Mine h ρ sto w)(he:EnvOk h ρ sto e a) :
  Lt P h ρ sto w ((execOp a.eval o).run P w) (xnil sto (ev e x)):=by
 have hx:=AaS he x;have key:∀ ad,a.eval x=.pointer (some ad)->(execOp a.eval o).run P w=.ok (.value (.pointer (some ad))) w:=fun ad hv=>by
  simp_all[execOp]
 unfold xnil
 split
 .rename_i id n j off hv
  split
  .intro hn
   grind[ptr_place,AaB]
  .trivial
 .rename_i ee l j off hv
  rw[hv]at hx;obtain⟨b,oo,vs,h1,_⟩:=AmO hx;refine AaB m (key _ h1) ?_<;>grind
 .trivial
theorem BqR{wr:Bool}{op:BinOp}{t yt:TypeId}{x y:Operand}{o:Oper}(ho:o.op=.binOp op t x y yt)(m:Mine h ρ sto w)(he:EnvOk h ρ sto e a) :
  Lt P h ρ sto w ((execOp a.eval o).run P w) (ApS wr sto (P.underlying t) op (ev e x) (ev e y)):=by
 have hx:=AaS he x;have hy:=AaS he y;have hrun:(execOp a.eval o).run P w=((do eqGuard op t x y (a.eval x) (a.eval y); Go.binOp op t (a.eval x) (a.eval y)).run P w).andThen fun v w'=>.ok (.value v) w':=by
  simp_all[execOp,AiN]
 unfold ApS
 split
 .rename_i el h1 h2
  rw[h1]at hy;have hv:=inv_raw hy;have keyE:∀ ad l c,a.eval x=.slice ad l c->op=.eql->Okv h ρ sto w ((execOp a.eval o).run P w) (.bool ad.isNone) sto:=fun ad l c hh hop=>by
   subst hop;refine AaB m ?_ (.bool _);have hg:(eqGuard .eql t x y (.slice ad l c) (.slice none 0 0)).run P w=.ok () w:=by simp_all[eqGuard]
   rw[hrun,hh,hv,Sem.run_bind,hg]
   show((do pure (Value.bool (<- Op.equal t (.slice ad l c) (.slice none 0 0)))).run P w).andThen _=_
   simp_all[run_equal_slice_nil]
  have keyN:∀ ad l c,a.eval x=.slice ad l c->op=.neq->Okv h ρ sto w ((execOp a.eval o).run P w) (.bool (!ad.isNone)) sto:=fun ad l c hh hop=>by
   subst hop;refine AaB m ?_ (.bool _);have hg:(eqGuard .neq t x y (.slice ad l c) (.slice none 0 0)).run P w=.ok () w:=by simp_all[eqGuard]
   rw[hrun,hh,hv,Sem.run_bind,hg]
   show((do pure (Value.bool (!(<- Op.equal t (.slice ad l c) (.slice none 0 0))))).run P w).andThen _=_
   simp_all[run_equal_slice_nil]
  have key:∀ neg,((neg=false/\op=.eql)\/(neg=true/\op=.neq))->Lt P h ρ sto w ((execOp a.eval o).run P w) (AhJ sto neg (ev e x)):=by
   intro neg hneg;have k2:∀ ad l c,a.eval x=.slice ad l c->Okv h ρ sto w ((execOp a.eval o).run P w) (.bool (neg ^^ ad.isNone)) sto:=fun ad l c hh=>by
    grind
   unfold AhJ
   split
   .rename_i ee y' l hv'
    rw[hv']at hx
    rcases AhK hx with⟨hh,_⟩|⟨b,oo,c,vs,hh,_⟩
    .grind
    .show Okv _ _ _ _ _ _ _
     grind
   .rename_i ee hv'
    rw[hv']at hx;intro _
    grind[AhK]
   .rename_i id off len cap hv'
    rw[hv']at hx;have hlf:=(AbL hx).2
    split
    .rename_i ee l hb
     intro hcap
     grind[LfC]
    .trivial
   .rename_i hv'
    rw[hv']at hx;have:=k2 _ _ _ (inv_raw hx)
    show Okv _ _ _ _ _ _ _
    grind
   .trivial
  split
  .grind
  .grind
  .trivial
 grind[BqG]
theorem AeW{wr frz:Bool}{o:Oper}{e:Env}{a:Act}(m:Mine h ρ sto w)(he:EnvOk h ρ sto e a) :
  Lt P h ρ sto w ((execOp a.eval o).run P w) (xop wr frz P e sto o.op):=by
 cases ho:o.op with
 | move x=>exact AaB m (by simp_all[execOp]) (AaS he x)
 | assign x=>exact AaB m (by simp_all[execOp]) (AaS he x)
 | pick c x y=>exact BqI ho m he
 | binOp op t x y yt=>exact BqR ho m he
 | unOp op t x =>
  cases op with
  | not=>exact BvB ho m he
  | neg=>exact BvC ho m he
  | _=>trivial
 | extract x i=>exact A6R ho m he
 | index t x i=>exact BiY ho m he
 | field t x f=>exact BiZ ho m he
 | box t x=>exact BqN ho m he
 | alloc t=>exact BiW ho m
 | fieldAddr t x f=>exact AvM ho m he
 | indexAddr t x i=>exact AvN ho m he
 | load t x=>exact BqH ho m he
 | store t x v=>exact BiX ho m he
 | convert a b x=>exact A6S ho m he
 | build t parts=>exact BjB ho m he
 | buildSlice t len parts=>exact AsE ho m he
 | makeFunc f first cap=>exact A0D ho m he
 | slice t x lo hi mx=>exact BvH ho m he
 | makeSlice t n c=>exact BqQ ho m he
 | nilCheck x=>exact BvJ ho m he
 | makeMap t r =>
  cases r with
  | none=>exact A6U ho m
  | some x=>trivial
 | mapUpdate t m' k v=>exact AvS ho m he
 | lookup t m' k c=>exact BaO ho m he
 | call c =>
  simp only[xop]
  split
  .grind[BvD]
  .grind[BvE]
  .grind[BaL]
  .grind[BqL]
  .grind[BoN]
  .grind[BoN]
  .grind[BqJ]
  .trivial
 | _=>trivial
end
