/- That some lists tell all orders of a statement (AvCv), checked by the order of its makers. -/
import Derived.Test.YtooohdocabpblaaGreatDoorV17
set_option linter.all false
namespace Go.Av
open RowKit
variable [Tr]
def AkQ(i:Nat):List Nat->Option (List Nat)
 | j::t=>bif j==i then some t else none
 | []=>none
def covM(need:Nat->List Nat)(im:List Nat):Nat->List Nat->List (List Nat)->Bool
 | 0,dm,M=>im.all dm.contains
 | n+1,dm,M=>im.all fun i=>dm.contains i||(!(need i).all dm.contains||(!(M.filterMap (AkQ i)).isEmpty&&covM need im n (i::dm) (M.filterMap (AkQ i))))
def A5J(ops:List Oper)(im:List Nat)(i:Nat):List Nat:=(anc ops ops.length i).filter im.contains
def pairsOk(ops:List Oper)(okp:Nat->Nat->Bool)(im:List Nat):List Nat->Bool
 | []=>true
 | j::r=>(r.all fun i=>(im.contains i&&im.contains j)||okp j i||(anc ops ops.length i).contains j)&&pairsOk ops okp im r
def nodupB:List Nat->Bool
 | []=>true
 | x::r=>!r.contains x&&nodupB r
theorem AoN:∀ {l:List Nat},nodupB l=true->l.Nodup
 | [],_=>.nil
 | x::r,h=>by
  simp only[nodupB,lac,laz]at h;refine List.nodup_cons.2 ⟨fun hm=>?_,AoN h.2⟩;rw[List.contains_iff_mem.2 hm]at h
  cases h.1
def permOk(n:Nat)(l:List Nat):Bool:=nodupB l&&l.all (fun i=>decide (i<n))&&((List.range n).all l.contains&&decide (l.length=n))
theorem AkR{okp:Nat->Nat->Bool}{i:Nat}:∀ {l1 l2:List Nat},i ∉ l1->(∀ j∈l1,okp j i=true)->frontOf okp i (l1++i::l2)=some (l1++l2)
 | [],l2,_,_=>by simp[frontOf]
 | j::l1,l2,h,hj=>by
  have h1:(j==i)=false:=by
   have:¬ j=i:=fun e=>h (by simp[e])
   simpa using this
  simp only[lah,frontOf,h1,lap,hj j (by simp),lai,AkR (l1:=l1) (l2:=l2) (fun hh=>h (by simp[hh])) fun k hk=>hj k (by simp[hk])];rfl
theorem AfC{ops:List Oper}{okp:Nat->Nat->Bool}{im:List Nat}{i:Nat}:∀ {l1 l2:List Nat},pairsOk ops okp im (l1++i::l2)=true->(∀ j∈l1,(im.contains i&&im.contains j)=true\/okp j i=true\/(anc ops ops.length i).contains j=true)/\pairsOk ops okp im (l1++l2)=true
 | [],l2,h=>by
  simp only[lax,pairsOk,lac]at h;exact⟨fun j hj=>(by cases hj),h.2⟩
 | k::l1,l2,h=>by
  simp only[lah,pairsOk,lac,law]at h;obtain⟨h1,h2⟩:=h;obtain⟨q1,q2⟩:=AfC h2;refine⟨fun j hj=>?_,?_⟩
  .rcases List.mem_cons.1 hj with rfl|hj
   .have:=h1 i (by simp)
    simp only[Bool.or_eq_true]at this
    rcases this with(h|h)|h
    .exact .inl h
    .exact .inr (.inl h)
    .exact .inr (.inr h)
   .exact q1 j hj
  .simp only [lah,pairsOk,lac,law]
   refine⟨fun x hx=>h1 x ?_,q2⟩;simp only[List.mem_append,lbf]at hx |-
   rcases hx with hx|hx
   .exact .inl hx
   .exact .inr (.inr hx)
theorem AxB{ops:List Oper}{okp:Nat->Nat->Bool}{im:List Nat}(hw:∀ i,i<ops.length->∀ j∈waits ops i,j<i):∀ (n fm:Nat)(done:List Nat)(LL M:List (List Nat)),
  (∀ i∈done,∀ j∈waits ops i,j∈done)->LL≠[]->(∀ l∈LL,l.Nodup/\(∀ i,i∈l ↔ i<ops.length/\i ∉ done)/\pairsOk ops okp im l=true/\l.length=n) ->
  covM (A5J ops im) im fm (done.filter im.contains) M=true->(∀ m∈M,∃ l∈LL,l.filter im.contains=m)->AeP ops okp n done LL=true:=by
 intro n
 induction n with
 | zero =>
  intro fm done LL M hcl hne hL hc hM;obtain⟨l,hl⟩:=List.exists_mem_of_ne_nil _ hne;have:=(hL l hl).2.2.2;have:l=[]:=lbe this;subst this;rw[AeP]
  simpa using hl
 | succ n ih =>
  intro fm done LL M hcl hne hL hc hM;rw[AeP]
  split
  .rename_i hr
   exfalso
   obtain⟨l,hl⟩:=List.exists_mem_of_ne_nil _ hne;obtain⟨h1,h2,h3,h4⟩:=hL l hl;have hk:∀ k,k<ops.length->k∈done:=by
    intro k
    induction k using Nat.strongRecOn with
    | _ k ihk =>
     intro hk
     by_cases hd:k∈done
     .exact hd
     exfalso
     have:k∈rdy ops done:=by
      unfold rdy;refine List.mem_filter.2 ⟨by simpa using hk,?_⟩;simp only[lac,laz,law,List.contains_iff_mem];refine⟨by simpa using hd,fun j hj=>?_⟩;have hjk:=hw k hk j hj;exact ihk j hjk (by omega)
     rw[hr]at this
     cases this
   cases l with
   | nil=>simp at h4
   | cons x l =>
    have:=(h2 x).1 (by simp);exact this.2 (hk x this.1)
  .rename_i is hr
   rw[law];intro i hi;have hird:i∈rdy ops done:=hi;unfold rdy at hird;simp only[List.mem_filter,List.mem_range,lac,laz,law,List.contains_iff_mem]at hird;obtain⟨hin,hid,hiw⟩:=hird;have hid:i ∉ done:=by simpa using hid
   have hanc:∀ j∈anc ops ops.length i,j∈done:=AgG (L:=fun j=>j∈done) hcl _ i hiw;have hone:∀ l∈LL,(∀ l1 l2,l=l1++i::l2->(∀ j∈l1,(im.contains i&&im.contains j)=false)->frontOf okp i l=some (l1++l2)):=by
    intro l hl l1 l2 he hmk;subst he;obtain⟨h1,h2,h3,h4⟩:=hL _ hl;refine AkR (fun h=>?_) fun j hj=>?_
    .rw [List.nodup_append]at h1
     exact h1.2.2 i h i (by simp) rfl
    .rcases (AfC h3).1 j hj with h|h|h
     .rw [hmk j hj]at h; cases h
     .exact h
     .have hjd:=hanc j (by simpa using h)
      exact absurd hjd ((h2 j).1 (by simp[hj])).2
   have hnew:∀ l'∈LL.filterMap (frontOf okp i),l'.Nodup/\(∀ k,k∈l' ↔ k<ops.length/\k ∉ i::done)/\pairsOk ops okp im l'=true/\l'.length=n:=by
    intro l' hl';obtain⟨l,hl,hf⟩:=List.mem_filterMap.1 hl';obtain⟨l1,l2,rfl,rfl,_⟩:=AdJ hf;obtain⟨h1,h2,h3,h4⟩:=hL _ hl;rw[List.nodup_append,List.nodup_cons]at h1;obtain⟨n1,⟨n2,n3⟩,n4⟩:=h1;have ni1:i ∉ l1:=fun h=>n4 i h i (by simp) rfl
    refine⟨List.nodup_append.2 ⟨n1,n3,fun a ha b hb=>n4 a ha b (by simp[hb])⟩,fun k=>?_,(AfC h3).2,by simp at h4 |-; omega⟩;have:=h2 k;simp only[List.mem_append,lbf,not_or]at this |-
    constructor
    .intro hk
     have hki:k≠i:=by
      rintro rfl
      rcases hk with hk|hk
      .exact ni1 hk
      .exact n2 hk
     have:=this.1 (by rcases hk with hk|hk <;> simp[hk]);exact⟨this.1,hki,this.2⟩
    .rintro ⟨a,b,c⟩
     rcases this.2 ⟨a,c⟩with h|h|h
     .exact .inl h
     .exact absurd h b
     .exact .inr h
   have hcl':∀ k∈i::done,∀ j∈waits ops k,j∈i::done:=by
    intro k hk j hj
    rcases List.mem_cons.1 hk with rfl|hk
    .exact List.mem_cons_of_mem _ (hiw j hj)
    .exact List.mem_cons_of_mem _ (hcl k hk j hj)
   have hsp:∀ l∈LL,∃ l1 l2,l=l1++i::l2:=fun l hl=>List.append_of_mem (((hL l hl).2.1 i).2 ⟨hin,hid⟩)
   cases hmi:im.contains i with
   | false =>
    have hall:∀ l∈LL,∃ l',frontOf okp i l=some l'/\l'.filter im.contains=l.filter im.contains:=by
     intro l hl;obtain⟨l1,l2,rfl⟩:=hsp l hl;exact⟨_,hone _ hl l1 l2 rfl (fun j _=>by rw[hmi]; rfl),by simp only[List.filter_append,List.filter_cons,hmi]; rfl⟩
    have hne':LL.filterMap (frontOf okp i)≠[]:=by
     obtain⟨l,hl⟩:=List.exists_mem_of_ne_nil _ hne;obtain⟨l',h1,_⟩:=hall l hl;exact List.ne_nil_of_mem (List.mem_filterMap.2 ⟨l,hl,h1⟩)
    have hf:(i::done).filter im.contains=done.filter im.contains:=by simp only[List.filter_cons,hmi]; rfl
    have:=ih fm (i::done) (LL.filterMap (frontOf okp i)) M hcl' hne' hnew (by rw[hf]; exact hc) (fun m hm=>by
     obtain⟨l,hl,he⟩:=hM m hm;obtain⟨l',h1,h2⟩:=hall l hl;exact⟨l',List.mem_filterMap.2 ⟨l,hl,h1⟩,h2.trans he⟩)
    rw[this,lbg]
    cases hq:LL.filterMap (frontOf okp i)with
    | nil=>exact absurd hq hne'
    | cons _ _=>rfl
   | true =>
    have hmi':i∈im:=by simpa using hmi
    cases fm with
    | zero =>
     rw[covM,law]at hc;have:=hc i hmi';simp only[List.contains_iff_mem,List.mem_filter]at this;exact absurd this.1 hid
    | succ fm =>
     rw[covM,law]at hc;have h0:=hc i hmi';have e1:(done.filter im.contains).contains i=false:=by simp[hid]
     have e2:(A5J ops im i).all (done.filter im.contains).contains=true:=by
      rw[law];intro j hj;obtain⟨h1,h2⟩:=List.mem_filter.1 hj;rw[List.contains_iff_mem];exact List.mem_filter.2 ⟨hanc j h1,h2⟩
     rw[e1,e2]at h0;simp only[Bool.false_or,Bool.not_true,lac,laz]at h0;obtain⟨hM0,hc'⟩:=h0;have hM':∀ m∈M.filterMap (AkQ i),∃ l'∈LL.filterMap (frontOf okp i),l'.filter im.contains=m:=by
      intro m hm;obtain⟨q,hq,ht⟩:=List.mem_filterMap.1 hm;have hqm:q=i::m:=by
       cases q with
       | nil=>cases ht
       | cons j t =>
        simp only[AkQ]at ht
        cases hji:j==i with
        | true =>
         rw[hji]at ht;simp only[lai,lad]at ht;rw[ht,show j=i by simpa using hji]
        | false=>rw[hji]at ht; cases ht
      obtain⟨l,hl,he⟩:=hM q hq;obtain⟨l1,l2,rfl⟩:=hsp l hl;rw[hqm]at he;simp only[List.filter_append,List.filter_cons,hmi,if_true]at he;have hnod:=(hL _ hl).1;rw[List.nodup_append]at hnod;have hf1:l1.filter im.contains=[]:=by
       cases hz:l1.filter im.contains with
       | nil=>rfl
       | cons a t =>
        rw[hz]at he;simp only[lah,List.cons.injEq]at he;have ha:a∈l1:=(List.mem_filter.1 (show a∈l1.filter im.contains by rw[hz]; simp)).1;exact absurd he.1 (hnod.2.2 a ha i (by simp))
      rw[hf1]at he;simp only[lax,List.cons.injEq,true_and]at he;refine⟨l1++l2,List.mem_filterMap.2 ⟨_,hl,hone _ hl l1 l2 rfl fun j hj=>?_⟩,by rw[List.filter_append,hf1,lax]; exact he⟩;have:=List.filter_eq_nil_iff.1 hf1 j hj
      cases hjm:im.contains j with
      | true=>exact absurd hjm this
      | false=>rw[Bool.and_false]
     have hne':LL.filterMap (frontOf okp i)≠[]:=by
      cases hz:M.filterMap (AkQ i)with
      | nil=>rw[hz]at hM0; simp at hM0
      | cons a t =>
       obtain⟨l',h1,_⟩:=hM' a (by rw[hz]; simp);exact List.ne_nil_of_mem h1
     have hf:(i::done).filter im.contains=i::done.filter im.contains:=by simp only[List.filter_cons,hmi,if_true]
     have:=ih fm (i::done) (LL.filterMap (frontOf okp i)) (M.filterMap (AkQ i)) hcl' hne' hnew (by rw[hf]; exact hc') hM';rw[this,lbg]
     cases hq:LL.filterMap (frontOf okp i)with
     | nil=>exact absurd hq hne'
     | cons _ _=>rfl
def coverK(ops:List Oper)(okp:Nat->Nat->Bool)(im:List Nat)(LL:List (List Nat)):Bool :=
 !LL.isEmpty&&(LL.all (fun l=>permOk ops.length l&&pairsOk ops okp im l)&&(covM (A5J ops im) im im.length [] (LL.map fun l=>l.filter im.contains)&&(List.range ops.length).all fun i=>(waits ops i).all fun j=>decide (j<i)))
theorem AuD{n:Nat}{l:List Nat}(h:permOk n l=true):l.Nodup/\(∀ i,i∈l ↔ i<n)/\l.length=n:=by
 simp only[permOk,lac,law,lar,List.mem_range,List.contains_iff_mem]at h;obtain⟨⟨h0,h1⟩,h2,h3⟩:=h;exact⟨AoN h0,fun i=>⟨h1 i,h2 i⟩,h3⟩
theorem AiZ{ops:List Oper}{okp:Nat->Nat->Bool}(im:List Nat){LL:List (List Nat)}(h:coverK ops okp im LL=true):AeP ops okp ops.length [] LL=true:=by
 simp only[coverK,lac,law,List.mem_range,lar,laz]at h;obtain⟨h1,h2,h3,h4⟩:=h;refine AxB (im:=im) (fun i hi j hj=>h4 i hi j hj) ops.length im.length [] LL _ (by simp) (fun e=>by rw[e]at h1; simp at h1) (fun l hl=>?_) h3 (fun m hm=>?_)
 .obtain ⟨a,b⟩:=h2 l hl
  obtain⟨c1,c2,c3⟩:=AuD a;exact⟨c1,fun i=>by simp[c2 i],b,c3⟩
 .obtain ⟨l,hl,rfl⟩:=List.mem_map.1 hm
  exact⟨l,hl,rfl⟩
end Go.Av
namespace Go.Av
open RowKit
variable [Tr]
theorem AjA{n:Nat}{v:AV}(h:lowC n v=true):lowC (n+1) v=true:=by
 cases v <;> simp only[lowC,lar]at h |- <;> first|omega|exact h
theorem AxC{n:Nat}{v:AV}(h:lowV n v=true):lowV (n+1) v=true:=by
 cases v<;>grind[lowV,AjA]
theorem AxD{n:Nat}{b:Blk}(h:lowB n b=true):lowB (n+1) b=true:=by
 cases b with
 | arr e l=>simp only[lowB,law]at h |-; exact fun x hx=>AjA (h x hx)
 | mp es=>simp only[lowB,law]at h |-; exact fun x hx=>AxC (h x hx)
 | it m n' s=>simp only[lowB,lar]at h |-; omega
 | dead=>rfl
theorem gt_at{T U:LB}{c:Nat}{d:Blk}:(T++U).getD (T.length+c) d=U.getD c d:=by
 rw[lam,lam,List.getElem?_append_right (by omega),Nat.add_sub_cancel_left]
theorem gt_at0{T U:LB}{d:Blk}:(T++U).getD T.length d=U.getD 0 d:=gt_at (c:=0)
theorem st_at{T U:LB}{c:Nat}{b:Blk}:(T++U).set (T.length+c) b=T++U.set c b:=by
 rw[List.set_append,if_neg (by omega),Nat.add_sub_cancel_left]
theorem st_at0{T U:LB}{b:Blk}:(T++U).set T.length b=T++U.set 0 b:=st_at (c:=0)
theorem AxE{T:LB}{k:Nat}{b:Blk}(h:T[k]? = some b)(U:LB):(T++U).getD k .dead=b:=by
 rw[lam,lao (List.getElem?_eq_some_iff.1 h).1,h]; rfl
theorem AxF{n m:Nat}(h:n<=m){b:AV}(hb:lowC n b=true):lowC m b=true:=by
 induction h<;>grind[AjA]
theorem AuE{n m:Nat}(h:n<=m){l:LA}(hb:l.all (lowC n)=true):l.all (lowC m)=true:=by grind[AxF]
theorem AsB{n m:Nat}(h:n<=m){b:Blk}(hb:lowB n b=true):lowB m b=true:=by
 induction h<;>grind[AxD]
theorem A5K{T U:LB}(h:T.all (lowB T.length)=true)(hU:U.all (lowB (T.length+U.length))=true):(T++U).all (lowB (T++U).length)=true:=by
 rw[lat,lbd,hU,lbg,law];rw[law]at h;exact fun b hb=>AsB (by omega) (h b hb)
theorem AeG{c:Cx}{e e':Env}{s:LB}(T U V:LB)(hs:s=T++(U++V))(hc:c.sto.length<=T.length+U.length)(hT:T.all (lowB T.length)=true)(hU:U.all (lowB (T.length+U.length))=true)(hw:wkl (T.length+U.length) e e'):Shift c e s e' (T++U):=by
 subst hs;rw[<- lab];have h:=Shift.low (c:=c) (e:=e) (e':=e') (s:=(T++U)++V) (T.length+U.length) hc (by simp) (by rw[<- lat,List.take_left]; exact A5K hT hU) hw;rw[<- lat,List.take_left]at h;exact h
theorem AfR{n id e:Nat}{l:LA}(h:n<=id){a:AV}(ha:lowC n a=true):frz1 id e l a=a:=by
 cases a with
 | sl m off len cap =>
  simp only[lowC,lar]at ha;have:(m==id)=false:=by simp; omega
  simp only[frz1,this,Bool.false_and,lap]
 | ptr m k i off =>
  simp only[lowC,lar]at ha;have:(m==id)=false:=by simp; omega
  simp only[frz1,this,Bool.false_and,lap]
 | _=>rfl
theorem map_id'{α:Type}{f:α->α}{l:List α}(h:∀ x∈l,f x=x):l.map f=l:=by
 induction l with
 | nil=>rfl
 | cons a r ih=>rw[lak,h a (by simp),ih fun x hx=>h x (by simp[hx])]
theorem AsC{x y:AV}:∀ {l:LA},x∈l->y∈cellsOf x->y∈flat l
 | [],h,_=>by cases h
 | a::r,h,hy=>by
  simp only[flat,List.mem_append]
  rcases List.mem_cons.1 h with rfl|h
  .exact .inl hy
  .exact .inr (AsC h hy)
theorem AsD{n id e:Nat}{l:LA}(h:n<=id){b:Blk}(hb:lowB n b=true):frzB id e l b=b:=by
 cases b with
 | arr es r =>
  simp only[lowB,law]at hb;simp only[frzB,Blk.arr.injEq,true_and];refine map_id' fun x hx=>?_
  have hc:∀ y∈cellsOf x,lowC n y=true:=fun y hy=>hb y (AsC hx hy)
  cases x with
  | agg r' =>
   simp only[frzC,AV.agg.injEq];exact map_id' fun y hy=>AfR h (hc y hy)
  | _=>exact AfR (id:=id) (e:=e) (l:=l) h (hc _ (.head _))
 | mp es =>
  simp only[lowB,law]at hb;simp only[frzB,Blk.mp.injEq];refine map_id' fun x hx=>?_
  have hv:=hb x hx;obtain⟨k,v⟩:=x;simp only[laq,true_and]
  cases v with
  | agg r' =>
   simp only[lowV,law]at hv;simp only[frz,AV.agg.injEq];exact map_id' fun y hy=>AfR h (hv y hy)
  | fn f r' =>
   simp only[lowV,law]at hv;simp only[frz,AV.fn.injEq,true_and];exact map_id' fun y hy=>AfR h (hv y hy)
  | _=>simp only[lowV]at hv; exact AfR (id:=id) (e:=e) (l:=l) h hv
 | it a b c=>rfl
 | dead=>rfl
end Go.Av
namespace Go.Av
open RowKit
variable [Tr]
theorem acut{c:Cx}{x:It}{B:Code}{k:List It}{e:Env}{s:LB}{ι:Type}(E:ι->Env)(S:ι->LB)(H:ι->Prop)
  (h1:∀ J:Act->World->Prop,(∀ y,H y->∀ a w,Sim c (E y) (S y) a w->J a w)->AWp c (x::.inv J::k) e s)
  (h2:∀ y,H y->AWp c (.code B::k) (E y) (S y)):AWp c (x::.code B::k) e s:=by
 intro a w hs;have h:=h1 (fun a w=>B.wp c.P (WQ c k) a w) (fun y hy a w hs=>h2 y hy a w hs) a w hs;have e1:WQ c (.inv (fun a w=>B.wp c.P (WQ c k) a w)::k)=WQ c (.code B::k):=by
  funext en a w
  cases en <;> rfl
 have e2:WQ c (x::.inv (fun a w=>B.wp c.P (WQ c k) a w)::k)=WQ c (x::.code B::k):=by
  funext en a w
  cases en <;> simp only[WQ,e1]
 rw[e2]at h;exact h
end Go.Av
namespace Go.Av
open RowKit
variable [Tr]
def mpOk:Blk->Bool
 | .it _ _ _=>false
 | _=>true
section
variable {h:Mem}{ρ:Own}{s:LB}{w:World}{σ:List Nat}
end
variable {c:Cx}{e:Env}{s:LB}
end Go.Av
set_option maxRecDepth 100000
set_option maxHeartbeats 2000000
namespace Go.Proofs.YtooohdocabpblaaGreatDoor
open Av RowKit Proofs.Tryz
def stripM:Nat->List Strip->List (AV×AV)
 | _,[]=>[]
 | i,x::l=>(.str x.scene,kI i)::stripM (i+1) l
theorem stripM_push:∀ (i:Nat)(l:List Strip)(x:Strip),stripM i (l++[x])=stripM i l++[(.str x.scene,kI (i+l.length:Nat))]
 | i,[],x=>by simp[stripM]
 | i,y::l,x=>by simp only[lah,stripM,stripM_push (i+1) l x,lan]; rw[show i+1+l.length=i+(l.length+1) by omega]
theorem AjB(k:LU):∀ (i n:Nat)(l:List Strip),k ∉ l.map (·.scene)->mfind .string (.str k) (stripM i l) n=some none
 | _,_,[],_=>rfl
 | i,n,x::l,h=>by
  simp only[lak,lbf,not_or]at h;have h1:(k==x.scene)=false:=by simpa using h.1
  simp only[stripM,mfind,keyEq,h1];exact AjB k (i+1) (n+1) l h.2
def siteM(l:List Site):List (AV×AV):=l.map fun x=>(.str x.key,siteA x)
theorem AkS(k:LU):∀ (n:Nat)(l:List Site),k ∉ l.map (·.key)->mfind .string (.str k) (siteM l) n=some none
 | _,[],_=>rfl
 | n,x::l,h=>by
  simp only[lak,lbf,not_or]at h;have h1:(k==x.key)=false:=by simpa using h.1
  simp only[siteM,lak,mfind,keyEq,h1];exact AkS k (n+1) l h.2
theorem AuF(l:List Site)(x:Site):siteM (l++[x])=siteM l++[(.str x.key,siteA x)]:=by simp[siteM]
def facA(x:Look):AV:=.agg [kI x.kind,.str x.name,.str x.facet]
def lookM(l:List Look):List (AV×AV):=l.map fun x=>(lookA x,.bool true)
def facM(l:List Look):List (AV×AV):=l.map fun x=>(facA x,.bool true)
theorem keyLook(x y:Look):keyEqT prog 126 (lookA x) (lookA y)=some (x.kind==y.kind&&(x.name==y.name&&(x.facet==y.facet&&(x.value==y.value&&true)))):=by
 simp only[lookA,go_sem]
theorem keyFac(x y:Look):keyEqT prog 215 (facA x) (facA y)=some (x.kind==y.kind&&(x.name==y.name&&(x.facet==y.facet&&true))):=by
 simp only[facA,go_sem]
theorem AkT(x:Look):∀ (n:Nat)(l:List Look),(∀ y∈l,¬ (x.kind=y.kind/\x.name=y.name))->mfindT prog 126 (lookA x) (lookM l) n=some none
 | _,[],_=>rfl
 | n,y::l,h=>by
  have h1:=h y (by simp);have hb:(x.kind==y.kind&&(x.name==y.name&&(x.facet==y.facet&&(x.value==y.value&&true))))=false:=by
   cases a:x.kind==y.kind <;> cases b:x.name==y.name <;> simp_all
  simp only[lookM,lak,mfindT,keyLook,hb];exact AkT x (n+1) l fun z hz=>h z (by simp[hz])
theorem AoO(x:Look):∀ (n:Nat)(l:List Look),(∀ y∈l,¬ (x.kind=y.kind/\x.name=y.name))->mfindT prog 215 (facA x) (facM l) n=some none
 | _,[],_=>rfl
 | n,y::l,h=>by
  have h1:=h y (by simp);have hb:(x.kind==y.kind&&(x.name==y.name&&(x.facet==y.facet&&true)))=false:=by
   cases a:x.kind==y.kind <;> cases b:x.name==y.name <;> simp_all
  simp only[facM,lak,mfindT,keyFac,hb];exact AoO x (n+1) l fun z hz=>h z (by simp[hz])
theorem lookM_push(l:List Look)(x:Look):lookM (l++[x])=lookM l++[(lookA x,.bool true)]:=by simp[lookM]
theorem AoP(l:List Look)(x:Look):facM (l++[x])=facM l++[(facA x,.bool true)]:=by simp[facM]
def rowL(b n:Nat):LA:=(List.range n).map fun i=>.mp (b+3*i)
theorem AjC(b n:Nat):rowL b n++[.mp (b+3*n)]=rowL b (n+1):=by simp[rowL,List.range_succ]
theorem AfS(b n:Nat):(rowL b n).length=n:=by simp[rowL]
theorem AeH{b n m:Nat}(h:∀ i<n,b+3*i<m):(flat (rowL b n)).all (lowC m)=true:=by
 have hf:∀ l:List Nat,(∀ i∈l,b+3*i<m)->(flat (l.map fun i=>(.mp (b+3*i):AV))).all (lowC m)=true:=by
  intro l
  induction l with
  | nil=>intro _; rfl
  | cons i l ih =>
   intro hl;simp only[lak,flat,cellsOf,lbd,lay,List.all_nil,lbg,lowC,lac,lar];exact⟨hl i (by simp),ih fun j hj=>hl j (by simp[hj])⟩
 exact hf _ fun i hi=>h i (by simpa using hi)
def mapsT:List Strip->LB
 | []=>[]
 | x::l=>.arr 8 [stripA x]::.mp (lookM x.looks)::.mp (facM x.looks)::mapsT l
theorem mapsT_push:∀ (l:List Strip)(x:Strip),mapsT (l++[x])=mapsT l++[.arr 8 [stripA x],.mp (lookM x.looks),.mp (facM x.looks)]
 | [],_=>rfl
 | y::l,x=>by simp only[lah,mapsT,mapsT_push l x]
theorem AfT:∀ l:List Strip,(mapsT l).length=3*l.length
 | []=>rfl
 | y::l=>by simp only[mapsT,lan,AfT l]; omega
theorem low_lookM(n:Nat)(l:List Look):lowB n (.mp (lookM l))=true:=by simp[lowB,lookM,lowV,lowC,Av.frozen]
theorem low_facM(n:Nat)(l:List Look):lowB n (.mp (facM l))=true:=by simp[lowB,facM,lowV,lowC,Av.frozen]
theorem AeI(n:Nat):∀ (i:Nat)(l:List Strip),lowB n (.mp (stripM i l))=true
 | _,[]=>rfl
 | i,x::l=>by
  have:=AeI n (i+1) l;simp only[lowB]at this |-;simp only[stripM,lay,this,lbg];rfl
theorem AoQ(n:Nat)(l:List Site):lowB n (.mp (siteM l))=true:=by simp[lowB,siteM,siteA,lowV,lowC,Av.frozen]
theorem AhN(n:Nat):∀ l:List Strip,(mapsT l).all (lowB n)=true
 | []=>rfl
 | x::l=>by
  simp only[mapsT,lay,low_lookM,low_facM,AhN n l,lbg];rfl
def deskB(p:Plan)(n:Nat):Blk:=.arr 19 [.agg (planC p++[.mp 0,.mp 1,.mp 2,.sl 4 0 n n,.sl 5 0 n n])]
theorem AmB{m:Nat}(p:Plan)(n:Nat)(h:6<=m):lowB m (deskB p n)=true:=by
 simp[lowB,deskB,planC,flat,cellsOf,lowC,Av.frozen]
 omega
def deskH(p:Plan)(M:List (AV×AV))(N:List (AV×AV))(n:Nat):LB:=[.mp M,.mp N,.mp [],deskB p n,.arr 1 (rowL 7 n),.arr 1 (rowL 8 n)]
def deskT(p:Plan)(ss:List Strip)(sites:List Site):LB:=deskH p (stripM 0 ss) (siteM sites) ss.length++mapsT ss
theorem AoR{p:Plan}{M N:List (AV×AV)}{n m:Nat}(hM:lowB m (.mp M)=true)(hN:lowB m (.mp N)=true)(h:6+3*n<=m):(deskH p M N n).all (lowB m)=true:=by
 simp only[deskH,lay,List.all_nil,hM,hN,AmB p n (show 6<=m by omega),Bool.true_and,lbg];have h1:lowB m (.arr 1 (rowL 7 n))=true:=AeH fun i hi=>by omega
 have h2:lowB m (.arr 1 (rowL 8 n))=true:=AeH fun i hi=>by omega
 rw[h1,h2]; rfl
structure DeskOk(p:Plan):Prop where
 few:p.strips.length<=1000
 fewS:p.crew.sites.length<=1000
 Lb:(p.strips.map (·.scene)).Nodup
 sites:(p.crew.sites.map (·.key)).Nodup
 looks:∀ s∈p.strips,s.looks.Pairwise fun a b=>¬ (a.kind=b.kind/\a.name=b.name)
 fewL:∀ s∈p.strips,s.looks.length<=1000
theorem gt1{T U:LB}{d:Blk}:(T++U).getD (T.length+1) d=U.getD 1 d:=gt_at (c:=1)
theorem gt2{T U:LB}{d:Blk}:(T++U).getD (T.length+1+1) d=U.getD 2 d:=gt_at (c:=2)
theorem gt3{T U:LB}{d:Blk}:(T++U).getD (T.length+1+1+1) d=U.getD 3 d:=gt_at (c:=3)
theorem gt4{T U:LB}{d:Blk}:(T++U).getD (T.length+1+1+1+1) d=U.getD 4 d:=gt_at (c:=4)
theorem st1{T U:LB}{b:Blk}:(T++U).set (T.length+1) b=T++U.set 1 b:=st_at (c:=1)
theorem st2{T U:LB}{b:Blk}:(T++U).set (T.length+1+1) b=T++U.set 2 b:=st_at (c:=2)
theorem st3'{T U:LB}{b:Blk}:(T++U).set (T.length+1+1+1) b=T++U.set 3 b:=st_at (c:=3)
theorem st4{T U:LB}{b:Blk}:(T++U).set (T.length+1+1+1+1) b=T++U.set 4 b:=st_at (c:=4)
theorem AaZ{c:Cx}{e e':Env}{s:LB}(U V:LB)(hs:s=U++V)(hc:c.sto.length<=U.length)(hU:U.all (lowB U.length)=true)(hw:wkl U.length e e'):Shift c e s e' U:=by
 subst hs;have:=AeG (c:=c) (e:=e) (e':=e') [] U V rfl (by simpa using hc) rfl (by simpa using hU) (by simpa using hw)
 simpa using this
def strip3(x:Strip):LB:=[.arr 8 [stripA x],.mp (lookM x.looks),.mp (facM x.looks)]
theorem AjD{p:Plan}{M N:List (AV×AV)}{i:Nat}{T:LB}{x:Strip}(hT:T.length=3*i)(hM:∀ m,lowB m (.mp M)=true)(hN:∀ m,lowB m (.mp N)=true)(lT:∀ m,T.all (lowB m)=true) :
  (deskH p M N (i+1)++(T++strip3 x)).all (lowB (deskH p M N (i+1)++(T++strip3 x)).length)=true:=by
 rw[lbd,lbd,AoR (hM _) (hN _) (by simp[deskH,strip3]; omega),lT];simp only[strip3,lay,low_lookM,low_facM,List.all_nil,Bool.true_and,lbg];rfl
theorem AhO{M:List (AV×AV)}{k:LU}{v:Int}(hM:∀ m,lowB m (.mp M)=true)(m:Nat):lowB m (.mp (M++[(.str k,kI v)]))=true:=by
 have:=hM m;simp only[lowB,lbd,lay,List.all_nil,lbg]at this |-;rw[this]; rfl
theorem agr4{a b c d:Blk}{U V:LB}:Agr 4 100 (a::b::c::d::U) (a::b::c::d::V):=fun k hk _=>by
 match k,hk with
 | 0,_=>rfl
 | 1,_=>rfl
 | 2,_=>rfl
 | 3,_=>rfl
theorem A8P:zav prog 145=[.raw (.slice none 0 0),.raw (.slice none 0 0),.raw (.slice none 0 0),.raw (.slice none 0 0),.raw (.slice none 0 0),kI 0,kI 0,kI 0,kI 0,kI 0,kI 0,kI 0,kI 0,kI 0,.raw (.map none),.raw (.map none),.raw (.map none),.raw (.slice none 0 0),.raw (.slice none 0 0)]:=by kernel_rfl
theorem AkU(p:Plan)(ok:DeskOk p):Ct prog 39 [.agg (planC p)] [] (fun r s=>r=.ptr 3 1 0 0/\s=deskT p p.strips p.crew.sites):=by
 refine AcT func39 rfl ntmps39 hB39 (by simp) fun h ρ w=>goB rfl 8 ?_
 simp only[planC,go_sem];apply zgN;simp only[go_sem,laa,A8P];refine AWp.shift (Shift.cells 3 1 [.agg (planC p++[.mp 0,.mp 1,.mp 2,.sl 4 0 0 0,.raw (.slice none 0 0)])] rfl rfl (by simp[cellsOf,planC]) (by simp only[planC,lah,lax]; exact⟨.refl,.refl,.refl,.refl,.refl,.refl,.refl,.refl,.refl,.refl,.refl,.refl,.refl,.refl,.refl,.refl,.refl,.sl,.refl,trivial⟩)) ?_;refine AWp.shift (Shift.cells 3 1 [.agg (planC p++[.mp 0,.mp 1,.mp 2,.sl 4 0 0 0,.sl 5 0 0 0])] rfl rfl (by simp[cellsOf,planC]) (by simp only[planC,lah,lax]; exact⟨.refl,.refl,.refl,.refl,.refl,.refl,.refl,.refl,.refl,.refl,.refl,.refl,.refl,.refl,.refl,.refl,.refl,.refl,.sl,trivial⟩)) ?_;refine AbP (ι:=Nat) (fun i=>p.strips.length-i) (fun i=>[(21,kI i),(20,kI p.strips.length),(19,.fz 8 (p.strips.map stripA)),(3,.ptr 3 1 0 0),(1,.pin 14 [.agg (planC p)] 0 0)])
  (fun i=>.mp (stripM 0 (p.strips.take i))::.mp []::.mp []::deskB p i::.arr 1 (rowL 7 i)::.arr 1 (rowL 8 i)::mapsT (p.strips.take i)) (fun i=>i<=p.strips.length) 0 (Nat.zero_le _) ?_ ?_
 .refine Lg ?_ rfl
  simp only[go_sem,planC]
 intro i hi J hJ
 by_cases gi:i<p.strips.length
 .have di:decide ((i:Int)<(p.strips.length:Int))=true:=by simp; omega
  have htk:p.strips.take (i+1)=p.strips.take i++[p.strips[i]]:=lag gi;have hst:=AcH p.strips gi;have hTl:(mapsT (p.strips.take i)).length=3*i:=by rw[AfT]; simp; omega
  have hnew:p.strips[i].scene ∉ (p.strips.take i).map (·.scene):=by
   have:=List.Nodup.sublist (List.take_sublist (i+1) _) ok.Lb;rw[<- List.map_take,htk,lav,List.nodup_append]at this;exact fun hm=>this.2.2 _ hm _ (by simp) rfl
  have hfin:=hJ (i+1) (by omega) (by omega);rw[htk,mapsT_push,stripM_push,List.length_take,Nat.min_eq_left (by omega),lbc]at hfin;obtain⟨T,hT⟩:∃ T,T=mapsT (p.strips.take i):=⟨_,rfl⟩;have f1:=AjB p.strips[i].scene 0 0 _ hnew;have lM:∀ m,lowB m (.mp (stripM 0 (p.strips.take i)))=true:=fun m=>AeI m _ _
  have lT:∀ m,T.all (lowB m)=true:=fun m=>by rw[hT]; exact AhN m _
  generalize stripM 0 (p.strips.take i)=M at f1 hfin lM |-;rw[<- hT]at hfin hTl |-;have hfw:=ok.few;have hl:=ok.looks _ (lae gi);have hlf:=ok.fewL _ (lae gi);clear hT hJ htk;generalize p.strips[i]=x at *;apply zgN;simp only[go_sem,di,hst,gt_at0,st_at0,laa,stripA]
  repeat refine ao ?_
  refine zr [] AaL ?_;simp only[go_sem,f1,gt_at0,st_at0,laa,deskB,planC];apply zgN;simp only[go_sem,gt_at0,st_at0,gt1,gt2,st1,st2,lab,laa]
  repeat refine aqb ?_
  refine AbA (ι:=Nat) (κ:=Unit) (fun j=>x.looks.length-j)
   (fun j=>[(38,kI j),(37,kI x.looks.length),(36,.fz 4 (x.looks.map lookA)),(7,.mp (T.length+1+1+1+1+1+1+1+1)),(6,.mp (T.length+1+1+1+1+1+1+1)),(21,kI i),(20,kI p.strips.length),(19,.fz 8 (p.strips.map stripA)),(3,.ptr 3 1 0 0),(1,.pin 14 [.agg (planC p)] 0 0)])
   (fun j=>.mp (M++[(.str x.scene,kI i)])::.mp []::.mp []::deskB p i::.arr 1 (rowL 7 i)::.arr 1 (rowL 8 i)::(T++[.arr 8 [stripA x],.mp (lookM (x.looks.take j)),.mp (facM (x.looks.take j))]))
   (fun j=>j<=x.looks.length)
   (fun _=>[(7,.mp (T.length+1+1+1+1+1+1+1+1)),(6,.mp (T.length+1+1+1+1+1+1+1)),(21,kI i),(20,kI p.strips.length),(19,.fz 8 (p.strips.map stripA)),(3,.ptr 3 1 0 0),(1,.pin 14 [.agg (planC p)] 0 0)])
   (fun _=>.mp (M++[(.str x.scene,kI i)])::.mp []::.mp []::deskB p i::.arr 1 (rowL 7 i)::.arr 1 (rowL 8 i)::(T++[.arr 8 [stripA x],.mp (lookM x.looks),.mp (facM x.looks)])) (fun _=>True) 0 (Nat.zero_le _) ?_ ?_ ?_
  .refine Lg ?_ rfl
   simp only[go_sem,planC]
  .rintro - -
   refine AxA [7,8,14,15] [] 4 100 [[0,1,2,3,4,5,6,7,8,9,10,11,12,13,14,15,16,17,18,19,20,21],[0,1,2,3,4,5,6,7,13,14,8,9,10,11,12,15,16,17,18,19,20,21],[0,1,2,3,4,5,6,13,14,7,8,9,10,11,12,15,16,17,18,19,20,21]]
    (fun _=>.any) (fun _ s=>(.any,s)) AaL (AiZ [7,8,14,15] (by decide +kernel)) (by decide +kernel) (by decide +kernel) rfl rfl 100 ?_
   have e7:T.length+1+1+1+1+1+1+1=7+3*i:=by omega
   have e8:7+3*i+1=8+3*i:=by omega
   simp only[lbf,List.not_mem_nil,or_false,forall_eq_or_imp,forall_eq];refine⟨?_,?_,?_⟩
   .simp only[go_sem,Go.Av.dxy,Go.Av.dxyc,Go.Av.pix,Go.Av.gOnB,↓Go.Av.AcP,↓Go.Av.AbX,Go.Av.dbry,List.filterMap_cons,List.filterMap_nil,deskB,planC,gt_at0,st_at0,gt1,gt2,gt3,gt4,st1,st2,st3',st4,lab,AfS]
    repeat refine And.intro (by first|omega|rfl|exact agr4|exact .inl trivial|(simp; done)) ?_
    apply zgN;simp only[go_sem]
    repeat refine aqc ?_
    simp only[e7,e8,AjC];refine ainv hfin (AaZ (deskH p (M++[(.str x.scene,kI i)]) [] (i+1)++(T++strip3 x)) _ (by simp only[deskH,deskB,planC,strip3,lab,lah,lax]; rfl) (by simp) (AjD hTl (AhO lM) (fun _=>rfl) lT) ?_);simp only[go_sem,planC,deskH,strip3];exact⟨rfl,by omega⟩
   .simp only[go_sem,Go.Av.dxy,Go.Av.dxyc,Go.Av.pix,Go.Av.gOnB,↓Go.Av.AcP,↓Go.Av.AbX,Go.Av.dbry,List.filterMap_cons,List.filterMap_nil,deskB,planC,gt_at0,st_at0,gt1,gt2,gt3,gt4,st1,st2,st3',st4,lab,AfS]
    repeat refine And.intro (by first|omega|rfl|exact agr4|exact .inl trivial|(simp; done)) ?_
    apply zgN;simp only[go_sem]
    repeat refine aqc ?_
    simp only[e7,e8,AjC];refine ainv hfin (AaZ (deskH p (M++[(.str x.scene,kI i)]) [] (i+1)++(T++strip3 x)) _ (by simp only[deskH,deskB,planC,strip3,lab,lah,lax]; rfl) (by simp) (AjD hTl (AhO lM) (fun _=>rfl) lT) ?_);simp only[go_sem,planC,deskH,strip3];exact⟨rfl,by omega⟩
   .simp only[go_sem,Go.Av.dxy,Go.Av.dxyc,Go.Av.pix,Go.Av.gOnB,↓Go.Av.AcP,↓Go.Av.AbX,Go.Av.dbry,List.filterMap_cons,List.filterMap_nil,deskB,planC,gt_at0,st_at0,gt1,gt2,gt3,gt4,st1,st2,st3',st4,lab,AfS]
    repeat refine And.intro (by first|omega|rfl|exact agr4|exact .inl trivial|(simp; done)) ?_
    apply zgN;simp only[go_sem]
    repeat refine aqc ?_
    simp only[e7,e8,AjC];refine ainv hfin (AaZ (deskH p (M++[(.str x.scene,kI i)]) [] (i+1)++(T++strip3 x)) _ (by simp only[deskH,deskB,planC,strip3,lab,lah,lax]; rfl) (by simp) (AjD hTl (AhO lM) (fun _=>rfl) lT) ?_);simp only[go_sem,planC,deskH,strip3];exact⟨rfl,by omega⟩
  .intro j hj J' Q' hJ' hQ'
   by_cases gj:j<x.looks.length
   .have dj:decide ((j:Int)<(x.looks.length:Int))=true:=by simp; omega
    have hlk:=AoF x.looks gj;have htj:x.looks.take (j+1)=x.looks.take j++[x.looks[j]]:=lag gj;have hne:∀ y∈x.looks.take j,¬ (x.looks[j].kind=y.kind/\x.looks[j].name=y.name):=by
     intro y hy he;obtain⟨q,hq,rfl⟩:=List.getElem_of_mem hy;have hq':q<j:=by simp at hq; omega
     rw[List.getElem_take]at he;exact(List.pairwise_iff_getElem.1 hl) q j (by omega) gj hq' ⟨he.1.symm,he.2.symm⟩
    have f2:=AkT x.looks[j] 0 _ hne;have f3:=AoO x.looks[j] 0 _ hne;have hfj:=hJ' (j+1) (by omega) (by omega);rw[htj,lookM_push,AoP]at hfj;have k1:isKeyT prog 126 (lookA x.looks[j])=true:=by simp[isKeyT,keyLook]
    have k2:isKeyT prog 215 (facA x.looks[j])=true:=by simp[isKeyT,keyFac]
    have lA:∀ m,lowB m (.mp (lookM (x.looks.take j)++[(lookA x.looks[j],.bool true)]))=true:=fun m=>by rw[<- lookM_push]; exact low_lookM m _
    have lB:∀ m,lowB m (.mp (facM (x.looks.take j)++[(facA x.looks[j],.bool true)]))=true:=fun m=>by rw[<- AoP]; exact low_facM m _
    generalize lookM (x.looks.take j)=A at f2 hfj lA |-;generalize facM (x.looks.take j)=B at f3 hfj lB |-;clear hne htj hJ';generalize x.looks[j]=y at *;simp only[lookA,facA]at f2 f3 k1 k2;apply zgN;simp only[go_sem,dj,hlk,lookA,gt_at0,st_at0,gt1,gt2,gt3,st1,st2,st3',lab,laa]
    repeat refine ao ?_
    refine A7E [(8,T.length+1+1+1+1+1+1+1)] [] AaL (by kernel_rfl) rfl rfl 100 ?_;simp only[go_sem,f2,f3,k1,k2,gt_at0,st_at0,gt_at,st_at,gt1,gt2,gt3,st1,st2,st3',lab,laa]
    repeat refine aqd ?_
    apply zgN;simp only[go_sem]
    repeat refine ao ?_
    refine ainv hfj (AaZ (.mp (M++[(.str x.scene,kI i)])::.mp []::.mp []::deskB p i::.arr 1 (rowL 7 i)::.arr 1 (rowL 8 i)::(T++[.arr 8 [stripA x],.mp (A++[(lookA y,.bool true)]),.mp (B++[(facA y,.bool true)])])) [.arr 4 [lookA y]] (by simp only[lookA,facA,lab,lah,lax]) (by simp) ?_ ?_)
    .have l1:=AhO (k:=x.scene) (v:=i) lM
     have l2:=@AmB (T.length+9) p i (by omega);have h1:lowB (T.length+9) (.arr 1 (rowL 7 i))=true:=AeH fun q hq=>by omega
     have h2:lowB (T.length+9) (.arr 1 (rowL 8 i))=true:=AeH fun q hq=>by omega
     simp only[lan,lat,lbm,lay,lbd,List.all_nil];rw[show T.length+(0+1+1+1)+1+1+1+1+1+1=T.length+9 by omega,l1,l2,h1,h2,lT];simp only[Bool.true_and,lbg,lac];refine⟨rfl,rfl,rfl,?_,?_⟩
     .exact lA _
     .exact lB _
    .simp only[go_sem,planC]
     exact⟨rfl,by omega,by omega,by omega⟩
   .have dj:decide ((j:Int)<(x.looks.length:Int))=false:=by simp; omega
    rw[laf (by omega)];apply zgN;simp only[go_sem,dj];refine ainv (hQ' () trivial) (Lg ?_ rfl);simp only[go_sem]
 .have di:decide ((i:Int)<(p.strips.length:Int))=false:=by simp; omega
  have hi':i=p.strips.length:=by omega
  subst hi';rw[laf (lal _)];have lM:∀ m,lowB m (.mp (stripM 0 p.strips))=true:=fun m=>AeI m _ _
  have lT:∀ m,(mapsT p.strips).all (lowB m)=true:=fun m=>AhN m _
  have hTl:=AfT p.strips;clear hJ;apply zgN;simp only[go_sem,di,planC,laa];refine AbP (ι:=Nat) (fun i=>p.crew.sites.length-i) (fun i=>[(76,kI i),(75,kI p.crew.sites.length),(74,.fz 3 (p.crew.sites.map siteA)),(3,.ptr 3 1 0 0)])
   (fun i=>.mp (stripM 0 p.strips)::.mp (siteM (p.crew.sites.take i))::.mp []::deskB p p.strips.length::.arr 1 (rowL 7 p.strips.length)::.arr 1 (rowL 8 p.strips.length)::mapsT p.strips) (fun i=>i<=p.crew.sites.length) 0 (Nat.zero_le _) ?_ ?_
  .refine Lg ?_ rfl
   simp only[go_sem]
  generalize hT:mapsT p.strips=T at lT hTl |-;generalize hM:stripM 0 p.strips=M at lM |-;intro i hi J hJ
  by_cases gi:i<p.crew.sites.length
  .have di:decide ((i:Int)<(p.crew.sites.length:Int))=true:=by simp; omega
   have htk:p.crew.sites.take (i+1)=p.crew.sites.take i++[p.crew.sites[i]]:=lag gi;have hst:=AcO p.crew.sites gi;have hnew:p.crew.sites[i].key ∉ (p.crew.sites.take i).map (·.key):=by
    have:=List.Nodup.sublist (List.take_sublist (i+1) _) ok.sites;rw[<- List.map_take,htk,lav,List.nodup_append]at this;exact fun hm=>this.2.2 _ hm _ (by simp) rfl
   have f1:=AkS p.crew.sites[i].key 0 _ hnew;have hfin:=hJ (i+1) (by omega) (by omega);have lN:∀ m,lowB m (.mp (siteM (p.crew.sites.take (i+1))))=true:=fun m=>AoQ m _
   rw[htk,AuF]at hfin lN;generalize siteM (p.crew.sites.take i)=N at f1 hfin lN |-;have hfw:=ok.few;have hfs:=ok.fewS;clear hJ htk;generalize p.crew.sites[i]=x at *;apply zgN;simp only[go_sem,di,hst,gt_at0,st_at0,laa,siteA]
   repeat refine ao ?_
   refine zr [] AaL ?_;simp only[go_sem,f1,gt_at0,st_at0,laa,deskB,planC]
   repeat refine ao ?_
   apply zgN;simp only[go_sem]
   repeat refine ao ?_
   refine ainv hfin (AaZ (.mp M::.mp (N++[(.str x.key,siteA x)])::.mp []::deskB p p.strips.length::.arr 1 (rowL 7 p.strips.length)::.arr 1 (rowL 8 p.strips.length)::T) [.arr 3 [siteA x]] (by simp only[siteA,deskB,planC,lab,lah,lax]) (by simp) ?_ ?_)
   .have l2:=@AmB (T.length+6) p p.strips.length (by omega)
    have h1:lowB (T.length+6) (.arr 1 (rowL 7 p.strips.length))=true:=AeH fun q hq=>by omega
    have h2:lowB (T.length+6) (.arr 1 (rowL 8 p.strips.length))=true:=AeH fun q hq=>by omega
    simp only[lan,lay];rw[show T.length+1+1+1+1+1+1=T.length+6 by omega,lM,lN,l2,h1,h2,lT];rfl
   .simp only[go_sem]
    exact⟨rfl,by omega⟩
  .have di:decide ((i:Int)<(p.crew.sites.length:Int))=false:=by simp; omega
   rw[laf (by omega)];apply zgN;simp only[go_sem,di];exact aret [2] rfl ⟨rfl,by rw[<- hT,<- hM]; rfl⟩
