/- Parts of slices and strings. -/
import Derived.Test.YtooohdocabpblaaGreatDoorV5
set_option linter.all false
namespace Go.Av
open RowKit
variable [Tr]
section
variable {h:Mem}{ρ:Own}{sto:LB}{w:World}{P:Program}{e:Env}{a:Act}
theorem A6Q(he:EnvOk h ρ sto e a){lo:Option Operand}{x:Int}(hlo:loOf (evo e lo)=some x):(lo.map a.eval=none/\x=0)\/∃ k,lo.map a.eval=some (.int k x):=by
 cases lo with
 | none=>grind[evo,loOf]
 | some o =>
  have ho:=AaF he o;simp only[evo]at hlo;unfold loOf at hlo
  split at hlo
  .grind
  .rename_i k b hh
   exact .inr ⟨k,by grind[AaE]⟩
  grind
theorem A6R(he:EnvOk h ρ sto e a){hi:Option Operand}{n:Nat}{y:Int}(hhi:hiOf n (evo e hi)=some y):(hi.map a.eval=none/\y=n)\/∃ k,hi.map a.eval=some (.int k y):=by
 cases hi with
 | none=>grind[evo,hiOf]
 | some o =>
  have ho:=AaF he o;simp only[evo]at hhi;unfold hiOf at hhi
  split at hhi
  .grind
  .rename_i k b hh
   exact .inr ⟨k,by grind[AaE]⟩
  grind
theorem AcL(he:EnvOk h ρ sto e a){lo hi:Option Operand}{x y:Int}{n c:Nat}(isS:Bool)(hlo:loOf (evo e lo)=some x)(hhi:hiOf n (evo e hi)=some y)(h0:0<=x)(h1:x<=y)(h2:y<=c) :
  (Instr.sliceBounds isS n c (lo.map a.eval) (hi.map a.eval) none).run P w=.ok (x.toNat,y.toNat,c) w:=by
 have b1:∀ k code,(Instr.sliceBound (.int k y) c code).run P w=.ok y.toNat w:=fun k code=>run_sliceBound w k y c code (by omega) h2
 have b2:∀ k code,(Instr.sliceBound (.int k x) y.toNat code).run P w=.ok x.toNat w:=fun k code=>run_sliceBound w k x _ code h0 (by omega)
 rcases A6Q he hlo with⟨e1,e2⟩|⟨k,e1⟩ <;> rcases A6R he hhi with⟨e3,e4⟩|⟨k',e3⟩ <;> rw[e1,e3]
 .simp_all[Instr.sliceBounds]
 .simp_all[Instr.sliceBounds]
 .simp_all[Instr.sliceBounds]
 simp_all[Instr.sliceBounds]
theorem AvO{α:Type}(l:List α){lo hi:Option AV}{x y:Int}(hlo:loOf lo=some x)(hhi:hiOf l.length hi=some y):cutL l lo hi=(l.take y.toNat).drop x.toNat:=by
 unfold loOf at hlo;unfold hiOf at hhi
 split at hlo <;> split at hhi <;> simp_all [cutL]
 all_goals subst_vars
 all_goals simp
theorem AaO{t el:TypeId}(ht:P.underlying t=some (.slice el))(hp:0<tsize P el){ad:Option Addr}{n c x y m:Nat}{lo hi mx:Option Value}(hb:(Instr.sliceBounds true n c lo hi mx).run P w=.ok (x,y,m) w) :
  (Instr.sliceAt t (.slice ad n c) lo hi mx).run P w=.ok (.slice (if m=x then ad else ad.map (·.add (x*tsize P el))) (y-x) (m-x)) w:=by
 have hsize:(sizeOf el).run P w=.ok (tsize P el) w:=AaR hp w
 simp_all[Instr.sliceAt,Instr.slice,run_underlying]
theorem AqA{t:TypeId}(ht:P.underlying t=some .string){s:ByteArray}{x y m:Nat}{lo hi:Option Value}(hb:(Instr.sliceBounds false s.size s.size lo hi none).run P w=.ok (x,y,m) w) :
  (Instr.sliceAt t (.string s) lo hi none).run P w=.ok (.string (s.extract x y)) w:=by
 simp_all[Instr.sliceAt,Instr.slice,run_underlying]
theorem A6S{t:TypeId}{x:Operand}{lo hi mx:Option Operand}{o:Oper}(ho:o.op=.slice t x lo hi mx)(m:Mine h ρ sto w)(he:EnvOk h ρ sto e a) :
  Lc P h ρ sto w ((execOp a.eval o).run P w) (xcut P sto (ev e x) (evo e lo) (evo e hi) (evo e mx) (P.underlying t)):=by
 have hrun:(execOp a.eval o).run P w=((Instr.sliceAt t (a.eval x) (lo.map a.eval) (hi.map a.eval) (mx.map a.eval)).run P w).andThen fun v w'=>.ok (.value v) w':=by
  simp_all[execOp]
 have hx:=AaF he x;generalize a.eval x=vx at *;generalize hr:(execOp a.eval o).run P w=r at *;unfold xcut
 split
 .rename_i hm ht
  have hmx:mx=none:=by cases mx <;> simp[evo]at hm |-
  subst hmx
  split
  .rename_i l hv
   rw[hv]at hx;have:=AaQ hx;subst this;unfold AtD
   split
   .rename_i xx yy hl hh
    intro⟨h0,h1,h2⟩;have hsz:(ByteArray.mk l.toArray).size=l.length:=rfl;have hb:=AcL (P:=P) (w:=w) he false hl hh h0 h1 h2;refine AaA m ?_ (by rw[AvO l hl hh]; exact .str _);rw[hrun,Option.map_none,AqA ht (by rw[hsz]; omega)]
    simp
    congr 3
    apply ByteArray.ext
    grind[ByteArray.data_extract,List.drop_take]
   .trivial
  .trivial
 .rename_i el hm ht
  have hmx:mx=none:=by cases mx <;> simp[evo]at hm |-
  subst hmx
  split
  .rename_i ee l hv
   rw[hv]at hx;unfold AtE
   split
   .rename_i xx yy hl hh
    intro⟨hp,h3,h0,h1,h2⟩;subst h3;rw[AvO l hl hh]
    rcases AeN hx with⟨rfl,rfl⟩|⟨b,oo,c,vs,rfl,k1,k2,k3,k4⟩
    .have hb:=AcL (P:=P) (w:=w) (n:=0) (c:=0) he true hl hh h0 h1 h2
     have hx0:xx.toNat=0:=by grind
     refine AaA m (u:=.slice none 0 0) ?_ (by grind);rw[hrun,Option.map_none,AaO ht hp hb];have:yy.toNat=0:=by grind
     simp[hx0,this]
    .have hb:=AcL (P:=P) (w:=w) (c:=c) he true hl hh h0 h1 (by omega)
     have hlen:((l.take yy.toNat).drop xx.toNat).length=yy.toNat-xx.toNat:=by grind
     have hrl:RL h (Lf ρ sto) true ((vs.take (yy.toNat*tsize P el)).drop (xx.toNat*tsize P el)) (flat ((l.take yy.toNat).drop xx.toNat)):=by
      rw[<- AaP (fun x hx=>k2 x (lbb hx)),<- AbD k2];exact(k1.take _).drop _
     have hvl:vs.length=l.length*tsize P el:=by rw[k1.length,AaN k2]
     by_cases hc:c=xx.toNat
     .have hnil:(l.take yy.toNat).drop xx.toNat=[]:=lbe (by omega)
      rw[hnil];refine AaA m (u:=.slice (some ⟨b,oo,none⟩) 0 0) ?_ (.fz b oo 0 _ [] [] .nil (by simp) (by simp) (lal _));rw[hrun,Option.map_none,AaO ht hp hb];have hyx:yy.toNat-xx.toNat=0:=by omega
      simp_all
     .refine AaA m (u:=.slice (some ⟨b,oo+xx.toNat*tsize P el,none⟩) ((l.take yy.toNat).drop xx.toNat).length (c-xx.toNat)) ?_ (.fz b _ _ _ _ _ hrl (fun x hx=>k2 x (lbb (lbi hx))) (fun k v hk=>?_) (by omega))
      .rw [hrun,Option.map_none,AaO ht hp hb,hlen]
       simp_all[Addr.add_mid]
      grind
   .trivial
  .rename_i id off len cap hv
   rw[hv]at hx;have hlf:=(AbN hx).2;unfold AtF
   split
   .rename_i ee l xx yy hbk hl hh
    have hso:=AbS hbk;intro⟨hp,h3,h4,h5,h0,h1,h2⟩;subst h3;simp only[LfC,hso]at hlf
    rcases hlf.2 h4 with⟨rfl,rfl,ad,rfl⟩|⟨g,tot,j1,rfl,j2⟩
    .have hb:=AcL (P:=P) (w:=w) (c:=0) he true hl hh h0 h1 (by omega)
     have hx0:xx=0:=by omega
     have hy0:yy=0:=by omega
     subst hx0 hy0;refine AaA m (u:=.slice (at0 ad) 0 0) ?_ (.leaf ⟨rfl,?_⟩)
     .rw [hrun,Option.map_none,AaO ht hp hb]; simp
     grind[LfC]
    .have hown:=m.own id _ hso
     rcases hown with⟨_,hno⟩|⟨g',tot',cur,tt,i3,i4,i5,i6,i7,i8,i9,i10,i11⟩
     .grind
     .rw [i3]at j1
      simp at j1
      obtain⟨rfl,rfl⟩:=j1;have hb:=AcL (P:=P) (w:=w) (c:=tot'-off) he true hl hh h0 h1 (by omega)
      by_cases hc:tot'-off=xx.toNat
      .have hyx:yy.toNat-xx.toNat=0:=by omega
       refine AaA m (u:=.slice (some ⟨g',off*tsize P el,none⟩) 0 0) ?_ (.leaf ⟨rfl,?_⟩)
       .rw [hrun,Option.map_none,AaO ht hp hb]
        simp_all
       .simp only [LfC,hso]
        exact⟨by omega,fun _=>.inl ⟨by omega,by omega,some (g',off*tsize P el),rfl⟩⟩
      .refine AaA m (u:=.slice (some ⟨g',(off+xx.toNat)*tsize P el,none⟩) (yy-xx).toNat (tot'-(off+xx.toNat))) ?_ (.leaf ⟨rfl,?_⟩)
       .rw [hrun,Option.map_none,AaO ht hp hb]
        have:(yy-xx).toNat=yy.toNat-xx.toNat:=by omega
        simp_all[Addr.add_mid,Nat.add_mul,Nat.sub_add_eq]
       grind[LfC]
   .trivial
  .rename_i hv
   rw[hv]at hx;have:=AaU hx;subst this;unfold AtG
   split
   .rename_i xx yy hl hh
    intro⟨hp,h0,h1⟩;subst h0 h1;have hb:=AcL (P:=P) (w:=w) (n:=0) (c:=0) he true hl hh (by omega) (by omega) (by omega);refine AaA m (u:=.slice none 0 0) ?_ (.raw _);rw[hrun,Option.map_none,AaO ht hp hb]; rfl
   .trivial
  .trivial
 .rename_i mm el hm ht
  obtain⟨mo,rfl⟩:∃ mo,mx=some mo:=by cases mx <;> simp[evo]at hm |-
  simp only[evo,lad]at hm;subst hm;have hmo:=AaF he mo
  split
  .rename_i hlo
   have hlo':lo=none:=by cases lo <;> simp[evo]at hlo |-
   subst hlo';unfold AvB
   split
   .rename_i k1 k2 e1 e2
    obtain⟨ho',rfl⟩:∃ ho',hi=some ho':=by cases hi <;> simp[evo]at e1 |-
    simp only[evo,lad]at e1 e2;have hho:=AaF he ho';rw[e1]at hho;rw[e2]at hmo;have v1:=AaE hho;have v2:=AaE hmo;have hb:∀ n c,(Instr.sliceBounds true n c none (some (.int k1 0)) (some (.int k2 0))).run P w=.ok (0,0,0) w:=by
     simp_all[run_sliceBound,Instr.sliceBounds]
    have hsl:0<tsize P el->∀ ad n c,(Instr.sliceAt t (.slice ad n c) none (some (.int k1 0)) (some (.int k2 0))).run P w=.ok (.slice ad 0 0) w:=by
     intro hp ad n c;rw[AaO ht hp (hb n c)]; simp
    simp only[lbr,Option.map_none,v1,v2]at hrun;have new:∀ (ad:Option (Nat×Nat)),r=.ok (.value (.slice (at0 ad) 0 0)) w->Okv h ρ sto w r (.sl sto.length 0 0 0) (sto++[.arr 0 []]):=fun ad hh=>by
     obtain⟨m1,l1⟩:=m.pushNil 0;exact⟨_,_,_,_,.inl hh,m1,l1,.leaf ⟨rfl,by grind[LfC]⟩⟩
    split
    .rename_i ee l hv
     rw[hv]at hx;intro hp
     rcases AeN hx with⟨_,rfl⟩|⟨b,oo,c,vs,rfl,_⟩
     .exact new none (by rw[hrun,hsl hp]; rfl)
     .exact new (some (b,oo)) (by rw[hrun,hsl hp]; rfl)
    .rename_i id off len cap hv
     rw[hv]at hx;have hlf:=(AbN hx).2
     split
     .rename_i ee l hbk
      intro⟨hp,hcap⟩;simp only[LfC,AbS hbk]at hlf
      rcases hlf.2 hcap with⟨_,_,ad,rfl⟩|⟨g,tot,_,rfl,_⟩
      .simp_all
      .exact new (some (g,off*ee)) (by rw[hrun,hsl hp]; rfl)
     .trivial
    .rename_i hv
     rw[hv]at hx;have:=AaU hx;subst this;intro hp
     simp_all[AaA]
    .trivial
   .trivial
  .rename_i lo' hlo
   obtain⟨lo2,rfl⟩:∃ lo2,lo=some lo2:=by cases lo <;> simp[evo]at hlo |-
   simp only[evo,lad]at hlo;subst hlo;unfold AvC
   split
   .rename_i xx yy mm e1 e2 e3
    obtain⟨hi2,rfl⟩:∃ hi2,hi=some hi2:=by cases hi <;> simp[evo,ixOf]at e2 |-
    have val:∀ {y:Operand} {n:Int},ixOf (some (ev e y))=some n->∃ k,a.eval y=.int k n:=fun{y n} hy=>by
     have hh:=AaF he y;unfold ixOf at hy
     split at hy
     .rename_i k b hq
      simp only[lad]at hq hy;rw[hq]at hh;exact⟨k,by grind[AaE]⟩
     grind
    obtain⟨k1,v1⟩:=val e1;obtain⟨k2,v2⟩:=val e2;obtain⟨k3,v3⟩:=val e3;simp only[lbr,v1,v2,v3]at hrun;have hb:0<=xx->xx<=yy->yy<=mm->∀ n c:Nat,mm<=c->(Instr.sliceBounds true n c (some (.int k1 xx)) (some (.int k2 yy)) (some (.int k3 mm))).run P w=.ok (xx.toNat,yy.toNat,mm.toNat) w:=by
     intro h0 h1 h2 n c h3;have b1:=run_sliceBound (P:=P) w k3 mm c .slice3Acap (by omega) h3;have b2:=run_sliceBound (P:=P) w k2 yy mm.toNat .slice3B (by omega) (by omega);have b3:=run_sliceBound (P:=P) w k1 xx yy.toNat .slice3C (by omega) (by omega)
     simp_all[Instr.sliceBounds]
    split
    .rename_i ee l hv
     rw[hv]at hx;intro⟨hp,h0,h1,h2,h3⟩
     rcases AeN hx with⟨rfl,rfl⟩|⟨b,oo,c,vs,rfl,_,_,_,h4⟩
     .rw [AaO ht hp (hb h0 h1 h2 0 0 (by omega))]at hrun
      exact AaA m hrun (.any _)
     .rw [AaO ht hp (hb h0 h1 h2 _ c (by omega))]at hrun
      exact AaA m hrun (.any _)
    .rename_i id off len cap hv
     rw[hv]at hx;have hlf:=(AbN hx).2
     split
     .rename_i ee l hbk
      intro⟨hp,hcap,hlc,h0,h1,h2,h3⟩;have hso:=AbS hbk;simp only[LfC,hso]at hlf
      rcases hlf.2 hcap with⟨_,rfl,ad,rfl⟩|⟨g,tot,j1,rfl,_⟩
      .rw [AaO ht hp (hb h0 h1 h2 0 0 (by omega))]at hrun
       exact AaA m hrun (.any _)
      .rcases m.own id _ hso with⟨_,hno⟩|⟨g',tot',cur,tt,i3,i4,i5,i6,_⟩
       .grind
       .rw [i3]at j1
        simp only[lad,laq]at j1;obtain⟨rfl,rfl⟩:=j1;rw[AaO ht hp (hb h0 h1 h2 _ (tot'-off) (by omega))]at hrun;exact AaA m hrun (.any _)
     .trivial
    .trivial
   .trivial
 .rename_i n el hm ht
  have hmx:mx=none:=by cases mx <;> simp[evo]at hm |-
  subst hmx;unfold AtH
  split
  .rename_i hlo hhi
   have hlo':lo=none:=by cases lo <;> simp[evo]at hlo |-
   have hhi':hi=none:=by cases hi <;> simp[evo]at hhi |-
   subst hlo' hhi'
   split
   .rename_i ee aa hv
    rw[hv]at hx;intro⟨hs1,hn,hlen,hone⟩;obtain⟨b,oo,vs,rfl,k1,k2,k3,_⟩:=AgA hx;have hfl:flat (cellsOf aa)=cellsOf aa:=by
     have:∀ l:LA,l.all one=true->flat l=l:=by
      intro l
      induction l<;>grind[flat,AaI]
     grind
    have h1c:∀ x∈cellsOf aa,(cellsOf x).length=1:=fun x hx=>by grind[AaI]
    have hfa:flat [aa]=cellsOf aa:=by simp[flat]
    rw[hfa]at k1;refine AaA m (u:=.slice (some ⟨b,oo,none⟩) (cellsOf aa).length n) ?_ (.fz b oo n 1 (cellsOf aa) vs (by grind) h1c k3 (by omega));rw[hrun];have hsize:(sizeOf el).run P w=.ok (tsize P el) w:=AaR (by omega) w
    simp_all[Instr.sliceAt,run_underlying,Instr.sureAddr,Instr.sliceBounds,Addr.add]
   .trivial
  .trivial
 .trivial
end
