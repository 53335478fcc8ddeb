/- The table in which the needs of scenes lie. -/
import Derived.Test.YtnfkjpihaficbaaGreatDoorK44
set_option maxRecDepth 100000
set_option maxHeartbeats 8000000
set_option linter.unusedSimpArgs false
set_option linter.unusedVariables false
namespace Go.Proofs.YtnfkjpihaficbaaGreatDoor
open Go Go.Av Go.RowKit _root_.Go.Proofs.Tryz
theorem AvE(ps:List Pa):∀ j,(cuesN ps j).length<=j
 | 0=>by simp[cuesN]
 | j+1=>by
  have ih:=AvE ps j
  by_cases hj:j<ps.length
  .rw [AjK ps j hj]
   unfold cueN
   split
   .have:=AiC (es:=cuesN ps j) (k:=(⟨11,ps[j].text⟩:El)) (v:=((1:Int),false))
    omega
   .omega
  .have:cuesN ps (j+1)=cuesN ps j:=by
    unfold cuesN;rw[List.take_of_length_le (by omega),List.take_of_length_le (by omega)]
   rw[this];omega
theorem AyG{N:List NMap}{m:Nat}(h:∀ es∈N,es.length<=m)(i:Nat):(N.getD i []).length<=m:=BeO (P:=fun es=>es.length<=m) (Nat.zero_le _) h i
theorem AvF{x:Sr}(hp:∀ y∈x.scenes,y.paras.length<100000)(rs:List Ru):∀ k,∀ es∈needM x rs k,es.length<=100000+k
 | 0,es,he=>by
  obtain⟨y,hy,rfl⟩:=List.mem_map.1 (show es∈AvB x from he);have:=AvE y.paras y.paras.length;have:=hp y hy;omega
 | k+1,es,he=>by
  have ih:=AvF hp rs k
  by_cases hk:k<(mnAll rs x).length
  .rw [AjL x rs k hk]at he
   rcases List.mem_or_eq_of_mem_set he with he|rfl
   .have:=ih es he
    omega
   .have h1:=AyG ih (mnAll rs x)[k].scene
    have h2:=AiC (es:=(needM x rs k).getD (mnAll rs x)[k].scene []) (k:=(rs.getD (mnAll rs x)[k].rule ru00).el) (v:=(if((tval (rs.getD (mnAll rs x)[k].rule ru00).el ((needM x rs k).getD (mnAll rs x)[k].scene [])).getD (0,false)).1<(mnAll rs x)[k].c then(mnAll rs x)[k].c else((tval (rs.getD (mnAll rs x)[k].rule ru00).el ((needM x rs k).getD (mnAll rs x)[k].scene [])).getD (0,false)).1,false));unfold A9X;omega
  .have:needM x rs (k+1)=needM x rs k:=by
    unfold needM;rw[List.take_of_length_le (by omega),List.take_of_length_le (by omega)]
   rw[this]at he;have:=ih es he;omega
theorem AvG{x:Sr}(hp:∀ y∈x.scenes,y.paras.length<100000)(rs:List Ru)(ts:List Tg):∀ k,∀ es∈needA x rs ts k,es.length<=100000+(mnAll rs x).length+k
 | 0,es,he=>AvF hp rs _ es he
 | k+1,es,he=>by
  have ih:=AvG hp rs ts k
  by_cases hk:k<ts.length
  .rw [AjM x rs ts k hk]at he
   rcases List.mem_or_eq_of_mem_set he with he|rfl
   .have:=ih es he
    omega
   .have h1:=AyG ih (noIx x ts[k].scene)
    have h2:=AiC (es:=(needA x rs ts k).getD (noIx x ts[k].scene) []) (k:=ts[k].el) (v:=(ts[k].n,true));unfold AnX
    split
    .rw [AzV]
     omega
    .omega
  .have:needA x rs ts (k+1)=needA x rs ts k:=by
    unfold needA;rw[List.take_of_length_le (by omega),List.take_of_length_le (by omega)]
   rw[this]at he;have:=ih es he;omega
theorem AbU{T:List Blk}{k:Nat}{b:Blk}(h:T[k]? = some b)(U:List Blk):(T++U)[k]? = some b:=by
 rw[List.getElem?_append_left (List.getElem?_eq_some_iff.1 h).1]; exact h
theorem AcJ{T:List Blk}{k j:Nat}{b:Blk}(h:T[k]? = some b)(hj:j≠k)(y:Blk):(T.set j y)[k]? = some b:=by
 rw[List.getElem?_set_ne hj]; exact h
theorem AhO{T:List Blk}{k:Nat}(h:k<T.length)(y:Blk):(T.set k y)[k]? = some y:=by
 rw[List.getElem?_set_self h]
theorem AeV{T:List Blk}{k:Nat}{b:Blk}(h:T[k]? = some b):k<T.length:=(List.getElem?_eq_some_iff.1 h).1
theorem AhP{T:List Blk}{j k:Nat}{a b:Blk}(h1:T[j]? = some a)(h2:T[k]? = some b)(h:a≠b):j≠k:=fun e=>by
 subst e;rw[h1]at h2;exact h (Option.some.inj h2)
def Ext(T0 T:List Blk):Prop:=∀ (k:Nat)(b:Blk),T0[k]? = some b->T[k]? = some b
theorem Ext.app{T0 T:List Blk}(h:Ext T0 T)(U:List Blk):Ext T0 (T++U):=fun k b e=>AbU (h k b e) U
theorem Ext.set{T0 T:List Blk}(h:Ext T0 T){j:Nat}(hj:T0.length<=j)(y:Blk):Ext T0 (T.set j y):=fun k b e=>AcJ (h k b e) (by have:=AeV e; omega) y
theorem Ext.len{T0 T:List Blk}(h:Ext T0 T):T0.length<=T.length:=by
 by_cases h0:T0.length=0
 .omega
 .have:=AeV (h (T0.length-1) T0[T0.length-1] (by rw[List.getElem?_eq_getElem]))
  omega
theorem BaE{T U:List Blk}(h:T.all (lowB T.length)=true)(hU:U.all (lowB (T.length+U.length))=true):(T++U).all (lowB (T++U).length)=true:=AxU h hU
def cellsN(ids:List Nat)(n:Nat):List AV:=ids.map AV.mp++List.replicate (n-ids.length) (.raw (.map none))
theorem AeK{ids:List Nat}{n:Nat}(h:ids.length<=n):(cellsN ids n).length=n:=by simp[cellsN]; omega
theorem AiM{ids:List Nat}{n i:Nat}(h:i<ids.length):(cellsN ids n).getD i .any=.mp ids[i]:=by
 unfold cellsN;rw[List.getD_eq_getElem?_getD,List.getElem?_append_left (by simpa using h)]
 simp[h]
theorem A3P{ids:List Nat}{n:Nat}(h:ids.length<n):(cellsN ids n).getD ids.length .any=.raw (.map none):=by
 unfold cellsN;obtain⟨m,hm⟩:∃ m,n-ids.length=m+1:=⟨n-ids.length-1,by omega⟩;rw[List.getD_eq_getElem?_getD,List.getElem?_append_right (by simp),List.length_map,Nat.sub_self,hm]
 simp[List.replicate_succ]
theorem set_gt{T U:List Blk}{b:Nat}{X d:Blk}:(T.set b X++U).getD T.length d=U.getD 0 d:=by
 have h:=gt_at0 (T:=T.set b X) (U:=U) (d:=d)
 rwa [List.length_set]at h
theorem AyH{ids:List Nat}{n:Nat}(h:ids.length<n)(v:Nat):(cellsN ids n).set ids.length (.mp v)=cellsN (ids++[v]) n:=by
 unfold cellsN;rw[List.set_append_right _ _ (by simp),List.length_map,Nat.sub_self];obtain⟨m,hm⟩:∃ m,n-ids.length=m+1:=⟨n-ids.length-1,by omega⟩;rw[hm,List.length_append,List.length_singleton,show n-(ids.length+1)=m by omega]
 simp[List.replicate_succ]
theorem ApX{m:Nat}{ids:List Nat}(h:∀ id∈ids,id<m)(n:Nat):lowB m (.arr 1 (cellsN ids n))=true:=by
 have key:∀ l:List AV,(∀ x∈l,cellsOf x=[x])->flat l=l:=by
  intro l
  induction l with
  | nil=>intro _; rfl
  | cons a l ih=>intro h; rw[flat,h a (by simp),ih fun x hx=>h x (by simp[hx])]; rfl
 simp only[lowB];rw[key,cellsN,List.all_append,Bool.and_eq_true]
 .refine ⟨?_,?_⟩
  .rw [List.all_map,List.all_eq_true]
   intro id hid;simp only[Function.comp,lowC,decide_eq_true_eq];exact h id hid
  .rw [List.all_eq_true]
   intro x hx;rw[(List.mem_replicate.1 hx).2];rfl
 .intro x hx
  unfold cellsN at hx
  rcases List.mem_append.1 hx with hx|hx
  .obtain ⟨id,_,rfl⟩:=List.mem_map.1 hx
   rfl
  .rw [(List.mem_replicate.1 hx).2]
   rfl
structure NI(T0 T:List Blk)(b n:Nat)(ids:List Nat)(N:List NMap):Prop where
 ext:Ext T0 T
 arr:T[b]? = some (.arr 1 (cellsN ids n))
 len:N.length=ids.length
 few:ids.length<=n
 nd:ids.Nodup
 newb:T0.length<=b
 newi:∀ id∈ids,T0.length<=id
 maps:∀ (k id:Nat),ids[k]? = some id->T[id]? = some (.mp (ndM (N.getD k [])))
 low:T.all (lowB T.length)=true
theorem NI.lt{T0 T b n ids N}(h:NI T0 T b n ids N):∀ id∈ids,id<T.length:=fun id hid=>by
 obtain⟨k,hk⟩:=List.getElem?_of_mem hid;exact AeV (h.maps k id hk)
theorem NI.app{T0 T b n ids N}(h:NI T0 T b n ids N){U:List Blk}(hU:U.all (lowB (T.length+U.length))=true):NI T0 (T++U) b n ids N :=
 ⟨h.ext.app U,AbU h.arr U,h.len,h.few,h.nd,h.newb,h.newi,fun k id e=>AbU (h.maps k id e) U,BaE h.low hU⟩
theorem NI.more{T0 T b n ids N}(h:NI T0 T b n ids N){y:Blk}(hy:∀ m,lowB m y=true):NI T0 (T++[y]) b n ids N :=
 h.app (U:=[y]) (by simp only[List.all_cons,List.all_nil,hy,Bool.and_true])
theorem NI.put{T0 T b n ids N}(h:NI T0 T b n ids N){k id:Nat}(hk:ids[k]? = some id)(es:NMap):NI T0 (T.set id (.mp (ndM es))) b n ids (N.set k es):=by
 have hm:=List.mem_of_getElem? hk;have hid:=AeV (h.maps k id hk);refine⟨h.ext.set (h.newi id hm) _,AcJ h.arr (AhP (h.maps k id hk) h.arr (by simp)) _,by rw[List.length_set]; exact h.len,h.few,h.nd,h.newb,h.newi,fun j id2 e=>?_,A9H h.low (BjT _ _)⟩
 by_cases hjk:j=k
 .subst hjk
  rw[hk]at e
  cases e
  have hjl:j<N.length:=by rw[h.len]; exact(List.getElem?_eq_some_iff.1 hk).1
  rw[AhO hid]
  simp[List.getD,hjl]
 .have hne:id≠id2:=fun e2=>by
   subst e2;obtain⟨h1,h2⟩:=List.getElem?_eq_some_iff.1 hk;obtain⟨h3,h4⟩:=List.getElem?_eq_some_iff.1 e;have hp:=List.pairwise_iff_getElem.1 h.nd
   rcases Nat.lt_or_gt_of_ne hjk with hlt|hlt
   .exact hp j k h3 h1 hlt (h4.trans h2.symm)
   .exact hp k j h1 h3 hlt (h2.trans h4.symm)
  rw[AcJ (h.maps j id2 e) hne];have:(N.set k es).getD j []=N.getD j []:=by simp[List.getD,List.getElem?_set_ne (Ne.symm hjk)]
  rw[this]
theorem NI.other{T0 T b n ids N}(h:NI T0 T b n ids N){o e:Nat}{l l':List AV}(ho:T[o]? = some (.arr e l))(he:e≠1)(hn:T0.length<=o)(hl:lowB T.length (.arr e l')=true):NI T0 (T.set o (.arr e l')) b n ids N :=
 ⟨h.ext.set hn _,AcJ h.arr (AhP ho h.arr (by simp[he])) _,h.len,h.few,h.nd,h.newb,h.newi,fun k id q=>AcJ (h.maps k id q) (AhP ho (h.maps k id q) (by simp)) _,A9H h.low hl⟩
theorem NI.push{T0 T b n ids N}(h:NI T0 T b n ids N)(hn:ids.length<n){y:Blk}(hy:∀ m,lowB m y=true) :
  NI T0 (T.set b (.arr 1 ((cellsN ids n).set ids.length (.mp (T.length+1))))++[y,.mp []]) b n (ids++[T.length+1]) (N++[[]]):=by
 have hb:=AeV h.arr;rw[AyH hn];refine⟨(h.ext.set h.newb _).app _,?_,by simp[h.len],by simp; omega,?_,h.newb,?_,?_,?_⟩
 .exact AbU (AhO hb _) _
 .rw [List.nodup_append]
  exact⟨h.nd,by simp,fun a ha c hc e=>by rw[List.mem_singleton.1 hc]at e; have:=h.lt a ha; omega⟩
 .intro id hid
  rcases List.mem_append.1 hid with hid|hid
  .exact h.newi id hid
  .rw [List.mem_singleton.1 hid]
   have:=h.newb;omega
 .intro k id e
  by_cases hk:k<ids.length
  .rw [List.getElem?_append_left hk]at e
   have h1:=h.maps k id e;have:(N++[[]]).getD k []=N.getD k []:=by
    rw[List.getD_eq_getElem?_getD,List.getElem?_append_left (by rw[h.len]; exact hk),List.getD_eq_getElem?_getD]
   rw[this];exact AbU (AcJ h1 (AhP h.arr h1 (by simp)) _) _
  .have hk2:k=ids.length:=by
    have:=(List.getElem?_eq_some_iff.1 e).1
    simp at this
    omega
   subst hk2;rw[List.getElem?_append_right (Nat.le_refl _)]at e;simp only[Nat.sub_self,List.getElem?_cons_zero,Option.some.injEq]at e;subst e;have:(N++[[]]).getD ids.length []=[]:=by
    rw[List.getD_eq_getElem?_getD,<- h.len]
    simp
   rw[this,List.getElem?_append_right (by rw[List.length_set]; omega),List.length_set]
   simp[ndM]
 .have hlen:(T.set b (.arr 1 (cellsN (ids++[T.length+1]) n))++[y,.mp []]).length=T.length+2:=by simp
  rw[hlen,List.all_append,Bool.and_eq_true];refine⟨?_,?_⟩
  .rw [List.all_eq_true]
   intro z hz
   rcases List.mem_or_eq_of_mem_set hz with hz|rfl
   .exact AlD (by omega) (List.all_eq_true.1 h.low z hz)
   .refine ApX (fun id hid=>?_) n
    rcases List.mem_append.1 hid with hid|hid
    .have:=h.lt id hid; omega
    .rw [List.mem_singleton.1 hid]; omega
  .simp only [List.all_cons,List.all_nil,hy,Bool.and_true,Bool.true_and]
   rfl
structure Shr where
 no:List UInt8
 l:List Nd
 id:Nat
def shRow(q:Shr):AV:=.agg [.str q.no,.sl q.id 0 q.l.length q.l.length]
structure OI(T0 T:List Blk)(o:Nat)(R:List Shr):Prop where
 out:T[o]? = some (.arr 2 (R.map shRow))
 new:T0.length<=o
 rows:∀ q∈R,T0.length<=q.id/\T[q.id]? = some (.arr 4 (q.l.map ndA))
theorem OI.app{T0 T o R}(h:OI T0 T o R)(U:List Blk):OI T0 (T++U) o R:=⟨AbU h.out U,h.new,fun q hq=>⟨(h.rows q hq).1,AbU (h.rows q hq).2 U⟩⟩
theorem OI.push{T0 T o R}(h:OI T0 T o R){q:Shr}(hn:T0.length<=q.id)(hq:T[q.id]? = some (.arr 4 (q.l.map ndA))):OI T0 (T.set o (.arr 2 (R.map shRow++[shRow q]))) o (R++[q]):=by
 refine⟨by rw[AhO (AeV h.out),List.map_append,List.map_cons,List.map_nil],h.new,fun p hp=>?_⟩
 rcases List.mem_append.1 hp with hp|hp
 .exact ⟨(h.rows p hp).1,AcJ (h.rows p hp).2 (AhP h.out (h.rows p hp).2 (by simp)) _⟩
 .rw [List.mem_singleton.1 hp]
  exact⟨hn,AcJ hq (AhP h.out hq (by simp)) _⟩
theorem AsB{m:Nat}:∀ {R:List Shr},(∀ q∈R,q.id<m)->lowB m (.arr 2 (R.map shRow))=true
 | [],_=>rfl
 | q::R,h=>by
  have ih:=AsB (R:=R) fun p hp=>h p (by simp[hp])
  have h1:=h q (by simp);simp only[lowB]at ih |-;rw[List.map_cons,flat,List.all_append,ih,Bool.and_true];simp only[shRow,cellsOf,List.all_cons,List.all_nil,lowC,Av.frozen,Bool.and_true,Bool.true_and,decide_eq_true_eq];exact h1
theorem A1M(k:Nat):∀ (gs:List Gf)(n:Nat),(mfind (.int .i64) (.int .i64 (k:Int)) (gfF gs) n=some none/\∀ g∈gs,g.key≠k)\/∃ i g,mfind (.int .i64) (.int .i64 (k:Int)) (gfF gs) n=some (some (n+i,.fz 5 (g.ds.map faA)))/\gs[i]? = some g/\g.key=k
 | [],n=>.inl ⟨rfl,by simp⟩
 | g::r,n=>by
  by_cases hk:g.key=k
  .refine .inr ⟨0,g,?_,by simp,hk⟩
   subst hk
   simp[gfF,mfind,keyEq]
  .have h1:(((k:Nat):Int)==(g.key:Int))=false:=by simp; omega
   have e:mfind (.int .i64) (.int .i64 (k:Int)) (gfF (g::r)) n=mfind (.int .i64) (.int .i64 (k:Int)) (gfF r) (n+1):=by
    show(match keyEq (.int .i64) (.int .i64 (k:Int)) (.int .i64 (g.key:Int))with|some true=>some (some (n,AV.fz 5 (g.ds.map faA)))|some false=>mfind (.int .i64) (.int .i64 (k:Int)) (gfF r) (n+1)|none=>none)=_
    simp only[keyEq,h1];rfl
   rw[e]
   rcases A1M k r (n+1)with⟨h,h2⟩|⟨i,g',h1,h2,h3⟩
   .exact .inl ⟨h,fun y hy=>by
     rcases List.mem_cons.1 hy with rfl|hy
     .exact hk
     .exact h2 y hy⟩
   .exact .inr ⟨i+1,g',by rw[h1,show n+1+i=n+(i+1) by omega],by simpa using h2,h3⟩
def factsAt(kf:Fa->Nat)(fs:List Fa)(i:Nat):List Fa:=fs.filter fun f=>kf f==i
def esAt(kf:Fa->Nat)(fs:List Fa)(ord:List Nat)(j:Nat):LMap:=lrun ((ord.take j).flatMap (factsAt kf fs))
theorem BmP{kf:Fa->Nat}{fs:List Fa}{gs:List Gf}{T:List Blk}(h:GfOk kf fs gs T)(k:Nat) :
  (mfind (.int .i64) (.int .i64 (k:Int)) (gfF gs) 0=some none/\factsAt kf fs k=[])\/∃ i,mfind (.int .i64) (.int .i64 (k:Int)) (gfF gs) 0=some (some (i,.fz 5 ((factsAt kf fs k).map faA))):=by
 rcases A1M k gs 0 with⟨h1,h2⟩|⟨i,g,h1,h2,h3⟩
 .refine .inl ⟨h1,?_⟩
  unfold factsAt;rw[List.filter_eq_nil_iff];intro f hf;obtain⟨g,hg,e⟩:=h.all f hf;have:=h2 g hg;simp only[beq_iff_eq];omega
 .refine .inr ⟨0+i,?_⟩
  rw[h1,h.own g (List.mem_of_getElem? h2),h3];rfl
def B0(ord:List Nat)(a b:Nat):Blk:=.arr 3 [.agg [.fz 1 (ord.map inA),.mp a,.mp b]]
theorem BaF{κ ν:Type} [DecidableEq κ](es:List (Option (κ×ν)))(k:κ)(v:ν):∃ i,tix k (tput es k v)=some i:=by
 cases h:tix k (tput es k v)with
 | some i=>exact⟨i,rfl⟩
 | none =>
  exfalso
  rw[tix_none]at h;unfold tput at h
  cases hq:tix k es with
  | none=>rw[hq]at h; exact h (k,v) (by simp) rfl
  | some i =>
   rw[hq]at h;obtain⟨v0,h1,_⟩:=AiA hq;have hi:=(List.getElem?_eq_some_iff.1 h1).1;exact h (k,v) (List.mem_of_getElem? (i:=i) (by rw[List.getElem?_set_self hi])) rfl
theorem BaG(kf:Fa->Nat)(fs:List Fa)(ord:List Nat)(j:Nat)(h:j<ord.length):esAt kf fs ord (j+1)=lrun ((ord.take j).flatMap (factsAt kf fs)++factsAt kf fs ord[j]):=by
 unfold esAt;rw[List.take_succ_eq_append_getElem h,List.flatMap_append]
 simp
theorem AyI(kf:Fa->Nat)(fs:List Fa)(i:Nat):(factsAt kf fs i).length<=fs.length:=List.length_filter_le _ _
theorem BeQ{S:Std}(kf:Fa->Nat)(fs:List Fa)(hfs:fs.length<=8)(ord:List Nat)(hord:ord.length<=5)(gs:List Gf)(TG:List Blk)(hG:GfOk kf fs gs TG)(a b m:Nat)(ha:a<m)(hb:b<m)(f:FuncId)(caps:List AV)(hcaps:caps.all (lowC m)=true)
  (Φ:Nat->List Blk->List Blk->Prop) (Ψ:List Blk->List Blk->Prop)
  (hΦ:∀ j T R,Φ j T R->T.length=m/\T[b]? = some (.mp (gfF gs))/\T.all (lowB m)=true/\R.all (lowB (m+2+R.length))=true)
  (hcall:∀ j (hj:j<ord.length) T R,Φ j T R->CtH prog S f ([.int .i64 (ord[j]:Nat),.mp (m+1)]++caps) (T++(B0 ord a b::.mp (lkM (esAt kf fs ord (j+1)))::R)) (fun r s=>∃ T' R',s=T'++(B0 ord a b::.mp (lkM (esAt kf fs ord (j+1)))::R')/\((r=.bool true/\Φ (j+1) T' R')\/(r=.bool false/\Ψ T' R'))))
  (T0:List Blk) (h0:Φ 0 T0 []) :
  CtH prog S 65 [.agg [.fz 1 (ord.map inA),.mp a,.mp b],.fn (.func f) caps] T0 (fun r s=>r=.tup []/\∃ T R es,s=T++(B0 ord a b::.mp es::R)/\(Φ ord.length T R\/Ψ T R)):=by
 obtain⟨i1,i2,i3,i4⟩:=hΦ 0 T0 [] h0;subst i1;simp only[B0,List.cons_append,List.nil_append]at hcall |-;refine zdIF func65 rfl fun h ρ w hg=>?_
 simp only[go_sem,gt_at0,gt_at,List.append_assoc,List.cons_append,List.nil_append,List.length_map,List.length_append];refine AaC (ι:=Nat×List Blk×List Blk) (fun y=>ord.length-y.1)
  (fun y=>[(14,.int .i64 y.1),(13,.int .i64 ord.length),(12,.fz 1 (ord.map inA)),(4,.mp (T0.length+1)),(2,.ptr T0.length 1 0 0),(1,.fn (.func f) caps)])
  (fun y=>y.2.1++(.arr 3 [.agg [.fz 1 (ord.map inA),.mp a,.mp b]]::.mp (lkM (esAt kf fs ord y.1))::y.2.2)) (fun y=>y.1<=ord.length/\Φ y.1 y.2.1 y.2.2) (0,T0,[]) ⟨by simp,h0⟩ ?_ ?_
 .refine Shift.weakS ?_ rfl
  simp only[go_sem]
 rintro⟨j,T,R⟩ ⟨g1,g2⟩ J hJ;simp only at g1 g2 hJ |-;obtain⟨t1,t2,t3,t4⟩:=hΦ j T R g2
 by_cases gj:j<ord.length
 .have dj:decide ((j:Int)<(ord.length:Int))=true:=by simp; omega
  have p1:=AdP ord j gj;have hc:=hcall j gj T R g2;have hsucc:=BaG kf fs ord j gj;have hl8:=AyI kf fs ord[j];have hg0:∀ U:List Blk,(T++U).getD T0.length .dead=U.getD 0 .dead:=fun U=>by rw[<- t1]; exact gt_at0
  have hg1:∀ (U:List Blk) (c:Nat),(T++U).getD (T0.length+c) .dead=U.getD c .dead:=fun U c=>by rw[<- t1]; exact gt_at
  have hs1:∀ (U:List Blk) (c:Nat) (x:Blk),(T++U).set (T0.length+c) x=T++U.set c x:=fun U c x=>by rw[<- t1]; exact st_at
  have hgb:∀ U:List Blk,(T++U).getD b .dead=.mp (gfF gs):=AdQ t2;have hpre:lrun ((ord.take j).flatMap (factsAt kf fs))=esAt kf fs ord j:=rfl;generalize ord[j]=i at *;generalize (ord.take j).flatMap (factsAt kf fs)=pre at *;have hnext:∀ T' R',Φ (j+1) T' R'->∀ a_1 w_1,_:=fun T' R' h=>hJ (j+1,T',R') ⟨by simp only; omega,h⟩ (by simp only; omega)
  rcases BmP hG i with⟨m1,m2⟩|⟨q,m1⟩
  case' inl =>
   refine zgF ?_;simp only[go_sem,dj,p1,hg0,hg1,hs1,hgb,m1,List.length_map,List.append_assoc,List.cons_append,List.nil_append]
   repeat refine aj ?_
   refine AWp.shift (Shift.trans (Shift.nilfz 21 5 rfl) (Shift.weakS (e':=[(23,.int .i64 0),(22,.int .i64 (factsAt kf fs i).length),(21,.fz 5 ((factsAt kf fs i).map faA)),(6,.int .i64 i),(14,.int .i64 j),(13,.int .i64 ord.length),(12,.fz 1 (ord.map inA)),(4,.mp (T0.length+1)),(2,.ptr T0.length 1 0 0),(1,.fn (.func f) caps)]) ?_ rfl)) ?_
   .rw [m2]
    simp only[go_sem,List.map_nil,List.length_nil]
  case' inr =>
   refine zgF ?_;simp only[go_sem,dj,p1,hg0,hg1,hs1,hgb,m1,List.length_map,List.append_assoc,List.cons_append,List.nil_append]
   repeat refine aj ?_
   refine AWp.shift (Shift.weakS (e':=[(23,.int .i64 0),(22,.int .i64 (factsAt kf fs i).length),(21,.fz 5 ((factsAt kf fs i).map faA)),(6,.int .i64 i),(14,.int .i64 j),(13,.int .i64 ord.length),(12,.fz 1 (ord.map inA)),(4,.mp (T0.length+1)),(2,.ptr T0.length 1 0 0),(1,.fn (.func f) caps)]) ?_ rfl) ?_
   .simp only [go_sem]
  all_goals
   clear m1;clear hG;generalize factsAt kf fs i=l at *;refine AaC (ι:=Nat) (fun k=>l.length-k) (fun k=>[(23,.int .i64 k),(22,.int .i64 (l).length),(21,.fz 5 ((l).map faA)),(6,.int .i64 i),(14,.int .i64 j),(13,.int .i64 ord.length),(12,.fz 1 (ord.map inA)),(4,.mp (T0.length+1)),(2,.ptr T0.length 1 0 0),(1,.fn (.func f) caps)])
    (fun k=>T++(.arr 3 [.agg [.fz 1 (ord.map inA),.mp a,.mp b]]::.mp (lkM (lrun (pre++l.take k)))::R)) (fun k=>k<=l.length) 0 (by simp) ?_ ?_
   .refine Shift.weakS ?_ (by rw[List.take_zero,List.append_nil,hpre])
    simp only[go_sem]
   rintro k k1 K hK
   by_cases gk:k<l.length
   .have dk:decide ((k:Int)<(l.length:Int))=true:=by simp; omega
    have p2:=AiZ l k gk;have hst:lrun (pre++l.take (k+1))=AmU (lrun (pre++l.take k)) l[k]:=by rw[List.take_succ_eq_append_getElem gk,<- List.append_assoc,lrun_snoc]
    have hfin:=hK (k+1) (by omega) (by omega);rw[hst]at hfin;have hu:=AmV (pre++l.take k);clear hst;generalize lrun (pre++l.take k)=es at *;generalize l[k]=f0 at *;have hfind:=AlE (f0.el,f0.facet) es 0;have hput:=BjU es (f0.el,f0.facet) f0.value;have hfind2:=AlE (f0.el,f0.facet) (tput es (f0.el,f0.facet) f0.value) 0;have hdel:=BjV (tput es (f0.el,f0.facet) f0.value) (f0.el,f0.facet);obtain⟨i2,ht2⟩:=BaF es (f0.el,f0.facet) f0.value;rw[ht2]at hfind2 hdel;simp only[lkA,Nat.zero_add]at hfind hput hfind2 hdel;have hlow:(Blk.arr 3 [.agg [.fz 1 (ord.map inA),.mp a,.mp b]]::.mp (lkM (AmU es f0))::R).all (lowB (T.length+(Blk.arr 3 [.agg [.fz 1 (ord.map inA),.mp a,.mp b]]::.mp (lkM (AmU es f0))::R).length))=true:=by
     rw[List.all_cons,List.all_cons,low_lkM,Bool.true_and,Bool.and_eq_true];refine⟨?_,?_⟩
     .simp only [lowB,flat,cellsOf,lowC,Av.frozen,List.append_nil,List.all_cons,List.all_nil,Bool.and_true,Bool.true_and,Bool.and_eq_true,decide_eq_true_eq,List.length_cons]
      exact⟨by omega,by omega⟩
     .rw [t1]
      rw[List.all_eq_true]at t4 |-;exact fun x hx=>AlD (by simp only[List.length_cons]; omega) (t4 x hx)
    cases hv:f0.value==[]with
    | false =>
     have hls:AmU es f0=tput es (f0.el,f0.facet) f0.value:=by
      unfold AmU;rw[if_neg (by simpa using hv)];rfl
     rw[hls]at hfin hlow
     cases ht:tix (f0.el,f0.facet) es with
     | none =>
      rw[ht]at hfind hput;simp only at hfind hput;refine zgF ?_;simp only[go_sem,dk,p2,hv,hg0,hg1,hs1,hfind,gt_at0,gt_at,st_at,st_at0,t1,List.length_map,List.append_assoc,List.cons_append,List.nil_append,List.length_append,<- hput]
      repeat refine aqm ?_
      rw[ic k];refine ainv hfin ?_;refine AcP T (_::_::R) [_,_] rfl (Nat.le_of_eq t1.symm) (by rw[t1]; exact t3) hlow ?_;simp only[go_sem];exact⟨by omega,by omega,AgM (by omega) hcaps⟩
     | some i1 =>
      rw[ht]at hfind hput;simp only at hfind hput;refine zgF ?_;simp only[go_sem,dk,p2,hv,hg0,hg1,hs1,hfind,gt_at0,gt_at,st_at,st_at0,t1,List.length_map,List.append_assoc,List.cons_append,List.nil_append,List.length_append,<- hput]
      repeat refine aqm ?_
      rw[ic k];refine ainv hfin ?_;refine AcP T (_::_::R) [_,_] rfl (Nat.le_of_eq t1.symm) (by rw[t1]; exact t3) hlow ?_;simp only[go_sem];exact⟨by omega,by omega,AgM (by omega) hcaps⟩
    | true =>
     have hls:AmU es f0=tdel (tput es (f0.el,f0.facet) f0.value) (f0.el,f0.facet):=by
      unfold AmU;rw[if_pos (by simpa using hv)];rfl
     rw[hls]at hfin hlow
     cases ht:tix (f0.el,f0.facet) es with
     | none =>
      rw[ht]at hfind hput;simp only at hfind hput;refine zgF ?_;simp only[go_sem,dk,p2,hv,hg0,hg1,hs1,hfind,gt_at0,gt_at,st_at,st_at0,t1,List.length_map,List.append_assoc,List.cons_append,List.nil_append,List.length_append,<- hput,hfind2,<- hdel]
      repeat refine aqm ?_
      rw[ic k];refine ainv hfin ?_;refine AcP T (_::_::R) [_,_] rfl (Nat.le_of_eq t1.symm) (by rw[t1]; exact t3) hlow ?_;simp only[go_sem];exact⟨by omega,by omega,AgM (by omega) hcaps⟩
     | some i1 =>
      rw[ht]at hfind hput;simp only at hfind hput;refine zgF ?_;simp only[go_sem,dk,p2,hv,hg0,hg1,hs1,hfind,gt_at0,gt_at,st_at,st_at0,t1,List.length_map,List.append_assoc,List.cons_append,List.nil_append,List.length_append,<- hput,hfind2,<- hdel]
      repeat refine aqm ?_
      rw[ic k];refine ainv hfin ?_;refine AcP T (_::_::R) [_,_] rfl (Nat.le_of_eq t1.symm) (by rw[t1]; exact t3) hlow ?_;simp only[go_sem];exact⟨by omega,by omega,AgM (by omega) hcaps⟩
   .have dk:decide ((k:Int)<(l.length:Int))=false:=by simp; omega
    rw[List.take_of_length_le (by omega),<- hsucc];clear hK;refine zgF ?_;simp only[go_sem,dk];refine zaH hg (hc) ?_;rintro _ _ ⟨T',R',rfl,(⟨rfl,h1⟩|⟨rfl,h1⟩)⟩
    .have hfin:=hJ (j+1,T',R') ⟨by simp only; omega,h1⟩ (by simp only; omega)
     refine zgF ?_;simp only[go_sem]
     repeat refine aj ?_
     rw[ic j];refine ainv hfin (Shift.weakS ?_ rfl);simp only[go_sem]
    .refine zgF ?_
     simp only[go_sem];exact aret [] rfl ⟨rfl,T',R',_,rfl,.inr h1⟩
 .have dj:decide ((j:Int)<(ord.length:Int))=false:=by simp; omega
  have hjl:j=ord.length:=by omega
  subst hjl;refine zgF ?_;simp only[go_sem,dj];exact aret [] rfl ⟨rfl,T,R,_,rfl,.inl g2⟩
