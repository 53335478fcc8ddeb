/- named: the names of new leaves; between: what it answers. -/
import Derived.Test.YtlldmgboedknfaaGreatDoorC37
set_option maxRecDepth 100000
set_option maxHeartbeats 2000000
set_option linter.unusedSimpArgs false
set_option linter.unusedVariables false
namespace Go.Proofs.YtlldmgboedknfaaGreatDoor
open Go Go.Av Go.RowKit _root_.Go.Proofs.Tryz
theorem A5W{c:UInt8}:∀ l:List UInt8,(∀ x∈l,x≠c)->Lib.index l [c]=-1
 | [],_=>rfl
 | b::l,h=>by
  have hb:(c==b)=false:=by simpa using fun e=>h b (by simp) e.symm
  have ih:=A5W l fun x hx=>h x (by simp[hx])
  simp[Lib.index,List.isPrefixOf,hb,ih]
theorem AsC{c:UInt8}(b:List UInt8):∀ a:List UInt8,(∀ x∈a,x≠c)->Lib.index (a++c::b) [c]=(a.length:Int)
 | [],_=>by simp[Lib.index,List.isPrefixOf]
 | x::a,h=>by
  have hb:(c==x)=false:=by simpa using fun e=>h x (by simp) e.symm
  have ih:=AsC b a fun y hy=>h y (by simp[hy])
  have hn:((a.length:Int)==-1)=false:=by
   rw[beq_eq_false_iff_ne]; omega
  simp only[List.cons_append,Lib.index,List.isPrefixOf,hb,ih,Bool.false_and,Bool.false_eq_true,if_false,hn,List.length_cons];omega
theorem AjR(p:UInt8->Bool):∀ (l:List UInt8)(x:UInt8),x∈l.takeWhile p->p x=true
 | [],x,h=>by simp at h
 | a::l,x,h=>by
  rw[List.takeWhile_cons]at h
  split at h
  .rcases List.mem_cons.1 h with rfl|h
   .assumption
   .exact AjR p l x h
  .simp at h
theorem ApR{a:List UInt8}(h:numberL a=true):∀ x∈a,x≠45:=by
 intro x hx e;subst e;rw[AdG a]at hx
 rcases List.mem_append.1 hx with hx|hx
 .exact absurd (AjR digB a 45 hx) (by decide)
 .exact absurd (List.all_eq_true.1 (AbS h).2.2.2 45 hx) (by decide)
theorem BeV{a:List UInt8}(h:numberL a=true):Lib.cut a [45]=(a,[],false):=by
 unfold Lib.cut;rw[A5W a (ApR h),if_neg (by omega)]
theorem BeW{a:List UInt8}(h:numberL a=true)(b:List UInt8):Lib.cut (a++45::b) [45]=(a,b,true):=by
 unfold Lib.cut;rw[AsC b a (ApR h),if_pos (by omega)]
 simp
theorem BkU{a:List UInt8}(h:numberL a=true):endsL a=(a,a):=by simp[endsL,BeV h]
theorem BkV{a:List UInt8}(h:numberL a=true)(b:List UInt8):endsL (a++45::b)=(a,b):=by simp[endsL,BeW h]
theorem AgQ{a:List UInt8}(h:numberL a=true):leafNameL a=true:=by simp[leafNameL,BeV h,h]
theorem AyR{a b:List UInt8}(h:numberL a=true)(h':numberL b=true)(hl:nLt a b):leafNameL (a++45::b)=true:=by
 simp[leafNameL,BeW h,h,h',compareN_lt.2 hl]
theorem AgR{a:List UInt8}(h:numberL a=true):a≠[]:=fun e=>by subst e; exact absurd h (by decide)
theorem A5X{a b:List UInt8}(ha:a=[]\/numberL a=true):∀ f n,f+n<=6->btw a b f n≠[]->numberL (btw a b f n)=true/\(a=[]\/nLt a (btw a b f n))/\(b=[]\/nLt (btw a b f n) b)
 | 0,n,_,h=>absurd rfl h
 | f+1,n,hn,h=>by
  simp only[btw]at h |-
  split
  .rename_i hf
   simp only[fitsB,Bool.and_eq_true,bne_iff_ne,ne_eq,Bool.or_eq_true,beq_iff_eq,decide_eq_true_eq]at hf;obtain⟨h1,h2⟩:=A7M ha (n:=n) (by omega) hf.1;exact⟨h1,h2,hf.2.imp id compareN_lt.1⟩
  .rename_i hf
   rw[if_neg hf]at h;exact A5X ha f (n+1) (by omega) h
theorem AeM{a b:List UInt8}(ha:a=[]\/numberL a=true)(h:betweenL a b≠[]):numberL (betweenL a b)=true/\(a=[]\/nLt a (betweenL a b))/\(b=[]\/nLt (betweenL a b) b):=A5X ha 6 0 (by omega) h
theorem AjS{St:Std}(hS:LibOk St)(a b:List UInt8)(ha:a=[]\/numberL a=true)(hb:b=[]\/numberL b=true):PcH prog St 71 [.str a,.str b] (· = .str (betweenL a b)) :=
 A2Q hS a b (ha.imp id fun h=>AaG h) (hb.imp id fun h=>⟨(AaG h).1,by have:=(AaG h).2.1; omega⟩)
def AeS(out:List (List UInt8))(last:List UInt8):List UInt8:=if out=[] then last else(endsL (out.getD (out.length-1) [])).2
def nameUp(upper last:List UInt8):Nat->List (List UInt8)->Option (List (List UInt8))
 | 0,out=>some out
 | n+1,out=>if betweenL (AeS out last) upper=[] then none else nameUp upper last n (out++[betweenL (AeS out last) upper])
def AuT(had:List (List UInt8))(many:Nat):List UInt8:=(endsL (had.getD (many-1) [])).1++45::(endsL (had.getD (had.length-1) [])).2
def AgS(had:List (List UInt8))(many:Nat)(last upper:List UInt8):Option (List (List UInt8)) :=
 if many<had.length then some ((had.take many).set (many-1) (AuT had many))
 else nameUp upper last (many-had.length) had
def namedA:Option (List (List UInt8))->AV
 | some g=>.tup [.fz 1 (g.map .str),.int .i64 0]
 | none=>.tup [.fz 1 [],.int .i64 11]
theorem BeX{St:Std}(hS:LibOk St)(had:List (List UInt8))(many:Nat)(last upper:List UInt8)(h1:1<=many)(h2:many<=100000)(h3:had.length<=100000)(hh:∀ n∈had,leafNameL n=true/\n.length<1000000)(hl:last=[]\/numberL last=true)(hu:upper=[]\/numberL upper=true) :
  PcH prog St 74 [.fz 1 (had.map .str),.int .i64 (many:Int),.str last,.str upper] (· = namedA (AgS had many last upper)):=by
 by_cases hle:many<=had.length
 .have dle:decide ((many:Int)<=(had.length:Int))=true:=by simp; omega
  have hcut:List.drop 0 (List.take many (List.map AV.str had))=List.map AV.str (had.take many):=by simp[List.map_take]
  have htl:(had.take many).length=many:=by simp; omega
  by_cases hlt:many<had.length
  .have dlt:decide ((many:Int)<(had.length:Int))=true:=by rw[decide_eq_true_eq]; omega
   have g1:many-1<had.length:=by omega
   have g2:had.length-1<had.length:=by omega
   have e1:((many:Int)-1).toNat=many-1:=by omega
   have e2:((had.length:Int)-1).toNat=had.length-1:=by omega
   have hg1:List.getD (had.map AV.str) (many-1) .any=.str (had.getD (many-1) []):=by simp[List.getD,g1]
   have hg2:List.getD (had.map AV.str) (had.length-1) .any=.str (had.getD (had.length-1) []):=by simp[List.getD,g2]
   have hgk:List.getD (List.map AV.str (had.take many)) (many-1) .any=.str ((had.take many).getD (many-1) []):=by
    have h:many-1<(had.take many).length:=by omega
    rw[AcB h,List.getD_eq_getElem?_getD,List.getElem?_eq_getElem h]; rfl
   have m1:=hh (had.getD (many-1) []) (by simp[List.getD,g1]);have m2:=hh (had.getD (had.length-1) []) (by simp[List.getD,g2]);have hn1:=AaJ m1.1;have hn2:=AaJ m2.1;have l1:=(AaG hn1.1).2.1;have l2:=(AaG hn2.2.1).2.1;have hr:AgS had many last upper=some ((had.take many).set (many-1) (AuT had many)):=if_pos hlt;rw[hr];have hst:(List.map AV.str (had.take many)).set (many-1) (.str (AuT had many))=List.map AV.str ((had.take many).set (many-1) (AuT had many)):=by simp
   simp only[AuT]at hst |-;have he1:=AdR hS (had.getD (many-1) []) m1.2;have he2:=AdR hS (had.getD (had.length-1) []) m2.2;generalize endsL (had.getD (many-1) [])=p1 at *;generalize endsL (had.getD (had.length-1) [])=p2 at *;have hap:p1.1++[45]++p2.2=p1.1++45::p2.2:=by simp
   refine zqIB func74 rfl fun h ρ w hg=>?_
   simp only[go_sem,dle,hcut,List.length_map]
   repeat refine aqa ?_
   rw[<- List.map_take];refine za (AgK [] ((had.take many).map .str) (AjI _) (by simp; omega)) ?_;rintro _ _ ⟨rfl,rfl⟩;refine zgB ?_;simp only[go_sem,dlt,e1,hg1,List.length_map,htl]
   repeat refine aqa ?_
   refine zqB hg (he1) ?_;simp only[go_sem,dlt,e1,e2,hg2,List.length_map,htl]
   repeat refine aqa ?_
   refine zqB hg (he2) ?_;simp only[go_sem,dlt,e1,e2,hap,hgk,hst,List.length_map,htl]
   repeat refine aqa ?_
   refine ARet.shift (Shift.freeze 8 (id:=0) rfl rfl ?_ (Nat.le_refl _) (AaZ _)) (aret [8,9] rfl ⟨?_,rfl⟩)
   .simp; omega
   .have htk:List.take many ((List.take many had).set (many-1) (p1.1++45::p2.2))=(List.take many had).set (many-1) (p1.1++45::p2.2):=List.take_of_length_le (by simp; omega)
    simp only[resV,Av.get,Av.put,namedA,List.map_cons,List.map_nil,List.drop_zero,<- List.map_take,htk];rfl
  .have hme:many=had.length:=by omega
   have dlt:decide ((many:Int)<(had.length:Int))=false:=by simp; omega
   have hr:AgS had many last upper=some had:=by
    unfold AgS;rw[if_neg hlt,hme,Nat.sub_self]; simp[nameUp]
   rw[hr];have htk:had.take many=had:=List.take_of_length_le (by omega);rw[htk]at hcut;refine zqIB func74 rfl fun h ρ w hg=>?_
   simp only[go_sem,dle,hcut,List.length_map]
   repeat refine aqa ?_
   rw[<- List.map_take,htk];refine za (AgK [] (had.map .str) (AjI _) (by simp; omega)) ?_;rintro _ _ ⟨rfl,rfl⟩;refine zgB ?_;simp only[go_sem,dlt,List.length_map];refine ARet.shift (Shift.freeze 8 (id:=0) rfl rfl (by simp) (Nat.le_refl _) (AaZ _)) (aret [8,9] rfl ⟨?_,rfl⟩)
   simp[resV,Av.get,Av.put,namedA,List.take_of_length_le]
 .have dle:decide ((many:Int)<=(had.length:Int))=false:=by simp; omega
  have hr:AgS had many last upper=nameUp upper last (many-had.length) had:=if_neg (by omega);rw[hr];generalize hR:nameUp upper last (many-had.length) had=R;refine zqIB func74 rfl fun h ρ w hg=>?_
  simp only[go_sem,dle,List.length_map];refine za (AgK [] (had.map .str) (AjI _) (by simp; omega)) ?_;rintro _ _ ⟨rfl,rfl⟩;refine zgB ?_;simp only[go_sem,List.length_map];refine AaI (ι:=List (List UInt8)×List UInt8) (fun y=>many-y.1.length)
   (fun y=>[(15,.sl 0 0 y.1.length y.1.length),(1,.int .i64 many),(2,.str y.2),(3,.str upper)])
   (fun y=>[.arr 1 (y.1.map .str)])
   (fun y=>had.length<=y.1.length/\y.1.length<=many/\(y.1=[]->y.2=last)/\(∀ n∈y.1,leafNameL n=true/\n.length<1000000)/\nameUp upper last (many-y.1.length) y.1=R) (had,last) ⟨Nat.le_refl _,by simp only; omega,fun _=>rfl,hh,hR⟩ ?_ ?_
  .refine Shift.weakS ?_ (by simp)
   simp only[go_sem]
  .rintro ⟨out,la⟩ ⟨g1,g2,g3,g4,g5⟩ J hJ
   simp only at g1 g2 g3 g4 g5 hJ |-
   by_cases gi:out.length<many
   .have di:decide ((out.length:Int)<(many:Int))=true:=by simp; omega
    obtain⟨m,hm⟩:∃ m,many-out.length=m+1:=⟨many-out.length-1,by omega⟩;rw[hm,nameUp]at g5;have hln:AeS out last=[]\/numberL (AeS out last)=true:=by
     unfold AeS
     split
     .exact hl
     .rename_i hne
      have:=List.length_pos_iff.2 hne;have hlt:out.length-1<out.length:=by omega
      exact .inr (AaJ (g4 _ (by simp[List.getD,hlt])).1).2.1
    have hbt:=AjS hS (AeS out last) upper hln hu;have hlen:(out.map AV.str).length=out.length:=by simp
    by_cases hb0:betweenL (AeS out last) upper=[]
    .have db:(betweenL (AeS out last) upper==[])=true:=by simpa using hb0
     rw[if_pos hb0]at g5;subst g5
     by_cases h0:out=[]
     .have hla:=g3 h0
      have hl0:AeS out last=last:=if_pos h0;rw[hl0]at hbt db;subst hla;have dz:decide ((out.length:Int)>0)=false:=by simp[h0]
      refine zgB ?_;simp only[go_sem,di,dz,hlen];refine zqB hg (hbt) ?_;simp only[go_sem,db];refine ARet.shift (Shift.nilfz 8 1 rfl) (aret [8,9] rfl ⟨?_,rfl⟩)
      simp[resV,Av.get,Av.put,namedA]
     .have hpos:=List.length_pos_iff.2 h0
      have hl0:AeS out last=(endsL (out.getD (out.length-1) [])).2:=if_neg h0;have hlt:out.length-1<out.length:=by omega
      have dz:decide ((out.length:Int)>0)=true:=by rw[decide_eq_true_eq]; omega
      have e1:((out.length:Int)-1).toNat=out.length-1:=by omega
      have hg1:List.getD (out.map AV.str) (out.length-1) .any=.str (out.getD (out.length-1) []):=by simp[List.getD,hlt]
      have he:=AdR hS (out.getD (out.length-1) []) (g4 _ (by simp[List.getD,hlt])).2;rw[hl0]at hbt db;refine zgB ?_;simp only[go_sem,di,dz,e1,hg1,hlen]
      repeat refine aqa ?_
      refine zqB hg (he) ?_;simp only[go_sem];refine zqB hg (hbt) ?_;simp only[go_sem,db];refine ARet.shift (Shift.nilfz 8 1 rfl) (aret [8,9] rfl ⟨?_,rfl⟩)
      simp[resV,Av.get,Av.put,namedA]
    .have db:(betweenL (AeS out last) upper==[])=false:=by simpa using hb0
     rw[if_neg hb0]at g5;have hsp:=AeM hln hb0;have hfin:=fun la'=>hJ (out++[betweenL (AeS out last) upper],la') ⟨by simp; omega,by simp; omega,fun h=>absurd h (by simp),fun n hn=>by
      rcases List.mem_append.1 hn with hn|hn
      .exact g4 n hn
      .rw [List.mem_singleton.1 hn]; exact⟨AgQ hsp.1,by have:=(AaG hsp.1).2.1; omega⟩,by
       simp only[List.length_append,List.length_cons,List.length_nil];rw[show many-(out.length+(0+1))=m by omega]; exact g5⟩ (by simp; omega)
     have hap:List.map AV.str out++[.str (betweenL (AeS out last) upper)]=List.map AV.str (out++[betweenL (AeS out last) upper]):=by simp
     by_cases h0:out=[]
     .have hla:=g3 h0
      have hl0:AeS out last=last:=if_pos h0;rw[hl0]at hbt db hfin hap;subst hla;have dz:decide ((out.length:Int)>0)=false:=by simp[h0]
      refine zgB ?_;simp only[go_sem,di,dz,hlen];refine zqB hg (hbt) ?_;simp only[go_sem,db,hlen,hap]
      repeat refine aqa ?_
      refine ainv (hfin la) (Shift.weakS ?_ rfl);simp only[go_sem]
     .have hpos:=List.length_pos_iff.2 h0
      have hl0:AeS out last=(endsL (out.getD (out.length-1) [])).2:=if_neg h0;have hlt:out.length-1<out.length:=by omega
      have dz:decide ((out.length:Int)>0)=true:=by rw[decide_eq_true_eq]; omega
      have e1:((out.length:Int)-1).toNat=out.length-1:=by omega
      have hg1:List.getD (out.map AV.str) (out.length-1) .any=.str (out.getD (out.length-1) []):=by simp[List.getD,hlt]
      have he:=AdR hS (out.getD (out.length-1) []) (g4 _ (by simp[List.getD,hlt])).2;rw[hl0]at hbt db hfin hap;refine zgB ?_;simp only[go_sem,di,dz,e1,hg1,hlen]
      repeat refine aqa ?_
      refine zqB hg (he) ?_;simp only[go_sem];refine zqB hg (hbt) ?_;simp only[go_sem,db,hlen,hap]
      repeat refine aqa ?_
      refine ainv (hfin (endsL (out.getD (out.length-1) [])).2) (Shift.weakS ?_ rfl);simp only[go_sem]
   .have di:decide ((out.length:Int)<(many:Int))=false:=by rw[decide_eq_false_iff_not]; omega
    have hm0:many-out.length=0:=by omega
    rw[hm0,nameUp]at g5;subst g5;have hlen:(out.map AV.str).length=out.length:=by simp
    refine zgB ?_;simp only[go_sem,di,hlen];refine ARet.shift (Shift.freeze 8 (id:=0) rfl rfl (by simp) (Nat.le_refl _) (AaZ _)) (aret [8,9] rfl ⟨?_,rfl⟩)
    simp[resV,Av.get,Av.put,namedA,List.take_of_length_le]
end Go.Proofs.YtlldmgboedknfaaGreatDoor
set_option linter.unusedSectionVars false
namespace Go.Av
open Go Go.RowKit
variable [Tr]
def borP(n:Nat)(s:List Blk):AV->AV
 | .ptr id m i off=>match s.getD id .dead with
  | .arr e l=>bif decide (m=l.length)&&decide (i<l.length) then .pin e (l.map (borC n s)) i off else .any
  | _=>.any
 | x=>borC n s x
def borF(n:Nat)(s:List Blk):AV->AV
 | .fn f r=>.fn f (r.map (borP n s))
 | x=>borP n s x
section
variable {h:Mem}{ρ:Own}{s:List Blk}{w:World}
theorem BeY(m:Mine h ρ s w)(n:Nat){v:Value}{a:AV}(r:RV h (Lf ρ s) false v a):RV (AeG w) Lf0 true v (borP n s a):=by
 cases a with
 | ptr id k i off =>
  have hl:=(AcV r).2;simp only[borP]
  cases hq:s[id]? with
  | none =>
   have hgd:s.getD id .dead=.dead:=by rw[List.getD_eq_getElem?_getD,hq]; rfl
   rw[hgd];exact .any _
  | some b =>
   have hgd:s.getD id .dead=b:=by rw[List.getD_eq_getElem?_getD,hq]; rfl
   rw[hgd]
   cases b with
   | arr e l =>
    simp only
    cases hd:decide (k=l.length)&&decide (i<l.length)with
    | false=>exact .any _
    | true =>
     simp only[Bool.and_eq_true,decide_eq_true_eq]at hd;obtain⟨hd1,hd⟩:=hd;simp only[LfC,hq]at hl;obtain⟨_,g,tot,h1,rfl⟩:=hl.2 hd1;simp only[cond_true]
     rcases m.own id _ hq with⟨_,hn⟩|⟨g',tot',cur,t,h3,h4,h5,h6,h7,h8,h9,h10,h11⟩
     .rw [hn]at h1; cases h1
     .rw [h3]at h1
      simp only[Option.some.injEq,Prod.mk.injEq]at h1;obtain⟨rfl,rfl⟩:=h1;have hfl:=AaL h9;have hr:RL (AeG w) Lf0 true (cur.toList.take (l.length*e)) (flat (l.map (borC n s))):=by
       rw[bor_flat];exact AmS (fun r=>A5U m n r) h11
      have:=RV.pin (h:=AeG w) (Lf:=Lf0) (fl:=true) g' 0 e (l.map (borC n s)) _ i off hr (fun x hx=>by
       obtain⟨y,hy,rfl⟩:=List.mem_map.1 hx;rw[bor_cells,List.length_map];exact h9 y hy) (fun k v hk=>by
       rw[List.getElem?_take]at hk
       split at hk
       .have h12:=h10 v (List.mem_of_getElem? hk)
        unfold AeG;rw[h4.cell,<- Array.getElem?_toList,Nat.zero_add,hk]
        simp[h12]
       .simp at hk) (by rw[List.length_map]; exact hd)
      rwa [Nat.zero_add]at this
   | _=>exact .any _
 | _=>exact BqG m n r
theorem AyS(m:Mine h ρ s w)(n:Nat):∀ {l:List AV}{vs:List Value},RL h (Lf ρ s) false vs l->RL (AeG w) Lf0 true vs (l.map (borP n s))
 | [],_,r=>by cases r; exact .nil
 | a::l,_,r=>by cases r with|cons r1 r2=>exact .cons (BeY m n r1) (AyS m n r2)
theorem BqI(m:Mine h ρ s w)(n:Nat){v:Value}{a:AV}(r:RV h (Lf ρ s) false v a):RV (AeG w) Lf0 true v (borF n s a):=by
 cases a with
 | fn f l =>
  obtain⟨vs,rfl,rl⟩:=A3O r;exact .fn f vs _ (AyS m n rl)
 | _=>exact BeY m n r
theorem ApS(m:Mine h ρ s w)(n:Nat):∀ {l:List AV}{vs:List Value},RL h (Lf ρ s) false vs l->RL (AeG w) Lf0 true vs (l.map (borF n s))
 | [],_,r=>by cases r; exact .nil
 | a::l,_,r=>by cases r with|cons r1 r2=>exact .cons (BqI m n r1) (ApS m n r2)
end
theorem Ct.borrowF{P:Program}{f:FuncId}{args:List AV}{post:AV->Prop}(n:Nat)(s:List Blk)(hc:Pc P f (args.map (borF n s)) post)(hp:∀ r,post r->BtJ r=true):Ct P f args s (fun r s'=>post r/\s'=s):=by
 refine⟨hc.1,fun h ρ w vs m r=>?_⟩;refine(hc.2 (AeG w) w vs AyP (ApS m n r)).mono ?_;rintro en w' ⟨v,r,h',rfl,hpo,hm',_,_,hs,rv⟩;refine⟨v,r,s,h,ρ,rfl,⟨hpo,rfl⟩,m.same hs,Later.same hs,?_⟩;have:=hp r hpo
 cases rv with
 | int k n=>exact .int k n
 | bool b=>exact .bool b
 | str s=>exact .str s
 | _=>cases this
theorem CtH.borrowF{P:Program}{g:Std}{f:FuncId}{args:List AV}{post:AV->Prop}(n:Nat)(s:List Blk)(hc:PcH P g f (args.map (borF n s)) post)(hp:∀ r,post r->BtJ r=true):CtH P g f args s (fun r s'=>post r/\s'=s):=by
 refine⟨hc.1,fun h ρ w vs hg m r=>?_⟩;refine(hc.2 (AeG w) w vs (fun k o e=>(hg k o e).1) AyP (ApS m n r)).mono ?_;rintro en w' ⟨v,r,h',rfl,hpo,hm',_,_,hs,rv⟩;refine⟨v,r,s,h,ρ,rfl,⟨hpo,rfl⟩,m.same hs,Later.same hs,?_⟩;have:=hp r hpo
 cases rv with
 | int k n=>exact .int k n
 | bool b=>exact .bool b
 | str s=>exact .str s
 | _=>cases this
