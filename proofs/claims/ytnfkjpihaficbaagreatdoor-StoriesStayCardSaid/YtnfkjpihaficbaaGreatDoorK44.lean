/- The needs of scenes: plain law. -/
import Derived.Test.YtnfkjpihaficbaaGreatDoorK43
set_option maxRecDepth 100000
set_option maxHeartbeats 8000000
set_option linter.unusedSimpArgs false
set_option linter.unusedVariables false
namespace Go.Proofs.YtnfkjpihaficbaaGreatDoor
open Go Go.Av Go.RowKit _root_.Go.Proofs.Tryz
def lvN(es:NMap):List Nd:=es.filterMap fun x=>x.map fun y=>⟨y.1,y.2.1,y.2.2⟩
def ArX(es:NMap)(l:List Nd):Prop:=(∀ y:Nd,y∈l ↔ tval y.el es=some (y.n,y.hand))/\l.Pairwise ndLt
theorem A9V{es:NMap}(hu:AbX es)(y:Nd):y∈lvN es ↔ tval y.el es=some (y.n,y.hand):=by
 rw[AiB hu];unfold lvN;rw[List.mem_filterMap]
 constructor
 .rintro ⟨x,hx,e⟩
  cases x with
  | none=>cases e
  | some x =>
   simp only[Option.map_some,Option.some.injEq]at e;subst e;exact hx
 .intro h
  exact⟨_,h,by cases y; rfl⟩
theorem AlI:∀ {es:NMap},AbX es->(lvN es).Pairwise fun a b=>a.el≠b.el
 | [],_=>.nil
 | none::es,h=>AlI (es:=es) (List.pairwise_cons.1 h).2
 | some x::es,h=>by
  obtain⟨h1,h2⟩:=List.pairwise_cons.1 h
  show List.Pairwise _ ((⟨x.1,x.2.1,x.2.2⟩:Nd)::lvN es)
  refine List.pairwise_cons.2 ⟨fun b hb=>?_,AlI h2⟩;obtain⟨z,hz,e⟩:=List.mem_filterMap.1 hb
  cases z with
  | none=>cases e
  | some z =>
   simp only[Option.map_some,Option.some.injEq]at e;subst e;exact h1 _ hz x z rfl rfl
theorem AoI{es:NMap}(hu:AbX es){l:List Nd}(hp:l.Perm (lvN es))(hs:l.Pairwise fun x y=>¬ ndLt y x):ArX es l:=by
 refine⟨fun y=>by rw[hp.mem_iff,A9V hu],?_⟩;have hk:l.Pairwise fun a b=>a.el≠b.el:=hp.symm.pairwise (AlI hu) fun h e=>h e.symm
 refine(hs.and hk).imp fun{a b} h=>?_
 by_cases hl:ndLt a b
 .exact hl
 .exact absurd (elO.total _ _ hl h.1) h.2
def ndAt(es:NMap)(seen:List Nat):List Nd:=seen.filterMap fun i=>(es[i]?.join).map fun y=>⟨y.1,y.2.1,y.2.2⟩
theorem A9W(es:NMap):∀ seen:List Nat,seen.Perm (List.range es.length)->(ndAt es seen).Perm (lvN es):=by
 intro seen hp;have h1:(ndAt es seen).Perm (ndAt es (List.range es.length)):=hp.filterMap _;refine h1.trans (.of_eq ?_);unfold ndAt lvN;have key:∀ (l pre:NMap),(List.range' pre.length l.length).filterMap (fun i=>(((pre++l)[i]?).join).map fun y=>(⟨y.1,y.2.1,y.2.2⟩:Nd))=l.filterMap fun x=>x.map fun y=>⟨y.1,y.2.1,y.2.2⟩:=by
  intro l
  induction l with
  | nil=>intro pre; rfl
  | cons a l ih =>
   intro pre;have h:=ih (pre++[a]);rw[List.append_assoc,List.singleton_append,List.length_append,List.length_singleton]at h;rw[List.length_cons,List.range'_succ,List.filterMap_cons,List.filterMap_cons,h];have:(pre++a::l)[pre.length]? = some a:=by simp
   rw[this];rfl
 have:=key es [];rw[List.nil_append]at this;rw[List.range_eq_range'];exact this
theorem BeM{es:NMap}{seen:List Nat}(h:AnW es seen):(ndAt es seen).Perm (lvN es):=by
 obtain⟨hn,hlt,hall⟩:=h;have hp:((List.range es.length).filter (fun i=>decide (i∈seen))).Perm seen:=by
  rw[List.perm_ext_iff_of_nodup ((List.nodup_range).filter _) hn];intro i;simp only[List.mem_filter,List.mem_range,decide_eq_true_eq]
  constructor
  .exact fun h=>h.2
  .intro h
   obtain⟨y,hy⟩:=hlt i h;exact⟨(List.getElem?_eq_some_iff.1 hy).1,h⟩
 have h1:(ndAt es seen).Perm (ndAt es ((List.range es.length).filter (fun i=>decide (i∈seen)))):=(hp.filterMap _).symm;refine h1.trans ?_;have h2:ndAt es ((List.range es.length).filter (fun i=>decide (i∈seen)))=ndAt es (List.range es.length):=by
  unfold ndAt;rw[List.filterMap_filter];refine ArU ?_;intro i hi
  by_cases hs:i∈seen
  .simp [hs]
  .simp only [hs,decide_false]
   cases hq:es[i]? with
   | none=>rfl
   | some o =>
    cases o with
    | none=>rfl
    | some y=>exact absurd (hall i y hq) hs
 rw[h2];exact A9W es _ (.refl _)
theorem AlJ(es:NMap):∀ (seen:List Nat),(∀ i∈seen,∃ y,es[i]? = some (some y))->seen.map (vAt es)=(ndAt es seen).map ndA
 | [],_=>rfl
 | i::r,h=>by
  obtain⟨y,hy⟩:=h i (by simp);have ih:=AlJ es r fun j hj=>h j (by simp[hj])
  have h1:vAt es i=ndA ⟨y.1,y.2.1,y.2.2⟩:=by
   unfold vAt ndM;rw[List.getD_eq_getElem?_getD,List.getElem?_map,hy];rfl
  have h2:ndAt es (i::r)=⟨y.1,y.2.1,y.2.2⟩::ndAt es r:=by
   unfold ndAt;rw[List.filterMap_cons,hy];rfl
  rw[List.map_cons,ih,h1,h2,List.map_cons]
theorem AyC:∀ es:NMap,(lvs (ndM es)).length=(lvN es).length
 | []=>rfl
 | none::r=>by
  have:(lvs (ndM (none::r))).length=(lvs (ndM r)).length:=rfl;rw[this,AyC r];rfl
 | some x::r=>by
  have:(lvs (ndM (some x::r))).length=(lvs (ndM r)).length+1:=rfl;rw[this,AyC r];rfl
def AfR(K:List El)(es:NMap):Prop:=∀ y,some y∈es->y.1∈K
theorem AgP{K:List El}{es:NMap}{k:El}{v:Int×Bool}(h:AfR K es)(hk:k∈K):AfR K (tput es k v):=by
 intro y hy;unfold tput at hy
 split at hy
 .rcases List.mem_or_eq_of_mem_set hy with hy|hy
  .exact h y hy
  .cases hy; exact hk
 .rcases List.mem_append.1 hy with hy|hy
  .exact h y hy
  .simp only [List.mem_singleton,Option.some.injEq]at hy
   subst hy;exact hk
theorem A3N{K:List El}{es:NMap}{k:El}(h:AfR K es):AfR K (tdel es k):=by
 intro y hy;unfold tdel at hy
 split at hy
 .rcases List.mem_or_eq_of_mem_set hy with hy|hy
  .exact h y hy
  .cases hy
 .exact h y hy
theorem A1H:∀ {l K:List El},l.Nodup->(∀ x∈l,x∈K)->l.length<=K.length
 | [],_,_,_=>by simp
 | a::l,K,hn,h=>by
  obtain⟨h1,h2⟩:=List.nodup_cons.1 hn;have ha:=h a (by simp);have ih:=A1H (K:=K.erase a) h2 fun x hx=>by
   have hxa:x≠a:=fun e=>h1 (e▸hx)
   exact(List.mem_erase_of_ne hxa).2 (h x (by simp[hx]))
  have:=List.length_erase_of_mem ha;have hpos:0<K.length:=List.length_pos_of_mem ha;simp only[List.length_cons];omega
theorem BkA{K:List El}{es:NMap}(hu:AbX es)(h:AfR K es):(lvN es).length<=K.length:=by
 have hn:((lvN es).map (·.el)).Nodup:=List.pairwise_map.2 (AlI hu);have:=A1H (K:=K) hn fun x hx=>by
  obtain⟨y,hy,rfl⟩:=List.mem_map.1 hx;have h1:=(A9V hu y).1 hy;rw[AiB hu]at h1;exact h _ h1
 simpa using this
def cueN(es:NMap)(p:Pa):NMap:=if p.kind=2 then tput es ⟨11,p.text⟩ (1,false) else es
def cuesN(ps:List Pa)(j:Nat):NMap:=(ps.take j).foldl cueN []
def A9X(rs:List Ru)(es:NMap)(m:Mn):NMap:=tput es (rs.getD m.rule ru00).el (if((tval (rs.getD m.rule ru00).el es).getD (0,false)).1<m.c then m.c else((tval (rs.getD m.rule ru00).el es).getD (0,false)).1,false)
def BkB(rs:List Ru)(N:List NMap)(m:Mn):List NMap:=N.set m.scene (A9X rs (N.getD m.scene []) m)
def AnX(es:NMap)(t:Tg):NMap:=if t.n=0 then tdel (tput es t.el (t.n,true)) t.el else tput es t.el (t.n,true)
def noIx(x:Sr)(no:List UInt8):Nat:=x.scenes.findIdx (fun y=>y.no==no)
def BkC(x:Sr)(N:List NMap)(t:Tg):List NMap:=N.set (noIx x t.scene) (AnX (N.getD (noIx x t.scene) []) t)
def AvB(x:Sr):List NMap:=x.scenes.map fun y=>cuesN y.paras y.paras.length
def needM(x:Sr)(rs:List Ru)(k:Nat):List NMap:=((mnAll rs x).take k).foldl (BkB rs) (AvB x)
def needA(x:Sr)(rs:List Ru)(ts:List Tg)(k:Nat):List NMap:=(ts.take k).foldl (BkC x) (needM x rs (mnAll rs x).length)
theorem AjK(ps:List Pa)(j:Nat)(h:j<ps.length):cuesN ps (j+1)=cueN (cuesN ps j) ps[j]:=by
 unfold cuesN;rw[List.take_add_one,List.getElem?_eq_getElem h,List.foldl_append];rfl
theorem AjL(x:Sr)(rs:List Ru)(k:Nat)(h:k<(mnAll rs x).length):needM x rs (k+1)=BkB rs (needM x rs k) (mnAll rs x)[k]:=by
 unfold needM;rw[List.take_add_one,List.getElem?_eq_getElem h,List.foldl_append];rfl
theorem AjM(x:Sr)(rs:List Ru)(ts:List Tg)(k:Nat)(h:k<ts.length):needA x rs ts (k+1)=BkC x (needA x rs ts k) ts[k]:=by
 unfold needA;rw[List.take_add_one,List.getElem?_eq_getElem h,List.foldl_append];rfl
structure NOk(K:List El)(n:Nat)(N:List NMap):Prop where
 len:N.length=n
 all:∀ es∈N,AbX es/\AfR K es
theorem NOk.at'{K:List El}{n:Nat}{N:List NMap}(h:NOk K n N)(i:Nat):AbX (N.getD i [])/\AfR K (N.getD i []):=by
 rw[List.getD_eq_getElem?_getD]
 cases hq:N[i]? with
 | none=>exact⟨.nil,fun y hy=>by cases hy⟩
 | some es=>exact h.all es (List.mem_of_getElem? hq)
theorem NOk.set{K:List El}{n:Nat}{N:List NMap}(h:NOk K n N)(i:Nat){es:NMap}(h1:AbX es)(h2:AfR K es):NOk K n (N.set i es):=by
 refine⟨by rw[List.length_set]; exact h.len,fun e he=>?_⟩
 rcases List.mem_or_eq_of_mem_set he with he|rfl
 .exact h.all e he
 .exact ⟨h1,h2⟩
theorem A1I{K:List El}(ps:List Pa)(hk:∀ p∈ps,p.kind=2->(⟨11,p.text⟩:El)∈K):∀ j,AbX (cuesN ps j)/\AfR K (cuesN ps j)
 | 0=>⟨.nil,fun y hy=>by cases hy⟩
 | j+1=>by
  obtain⟨h1,h2⟩:=A1I ps hk j
  by_cases hj:j<ps.length
  .rw [AjK ps j hj]
   unfold cueN
   split
   .rename_i he
    exact⟨AeH h1,AgP h2 (hk _ (List.getElem_mem hj) he)⟩
   .exact ⟨h1,h2⟩
  .have:cuesN ps (j+1)=cuesN ps j:=by
    unfold cuesN;rw[List.take_of_length_le (by omega),List.take_of_length_le (by omega)]
   rw[this];exact⟨h1,h2⟩
def keysK(rs:List Ru)(ts:List Tg):List El:=(NameL.map fun s=>(⟨11,s⟩:El))++(rs.map (·.el)++ts.map (·.el))
theorem A9Y(rs:List Ru)(ts:List Tg):(keysK rs ts).length=4+(rs.length+ts.length):=by
 simp only[keysK,List.length_append,List.length_map];rfl
theorem BeN{x:Sr}(hx:StoryOk x)(rs:List Ru)(ts:List Tg):NOk (keysK rs ts) x.scenes.length (AvB x):=by
 refine⟨by simp[AvB],fun es he=>?_⟩;obtain⟨y,hy,rfl⟩:=List.mem_map.1 he;refine A1I y.paras (fun p hp h2=>?_) _;obtain⟨i,hi,rfl⟩:=List.getElem_of_mem hy;have hd:=(hx.all i hi).all p hp;exact List.mem_append_left _ (List.mem_map.2 ⟨p.text,hd.name h2,rfl⟩)
structure MnIn(rs:List Ru)(x:Sr)(m:Mn):Prop where
 rule:m.rule<rs.length
 scene:m.scene<x.scenes.length
theorem A9Z(rs:List Ru)(x:Sr){si:Nat}(hs:si<x.scenes.length)(pi:Nat)(set:List UInt8)(kind:Int)(ws:List (List UInt8)):∀ n,n<=rs.length->∀ m∈mnRs rs si pi set kind ws n,MnIn rs x m
 | 0,_,m,hm=>by cases hm
 | n+1,hn,m,hm=>by
  rw[mnRs]at hm
  rcases List.mem_append.1 hm with hm|hm
  .exact A9Z rs x hs pi set kind ws n (by omega) m hm
  .unfold mnR mnH at hm
   cases ha:appI (rs.getD n ru00) set kind with
   | false=>rw[ha]at hm; cases hm
   | true =>
    rw[ha,cond_true]at hm;obtain⟨h,_,rfl⟩:=List.mem_map.1 hm;exact⟨by simp only; omega,hs⟩
theorem BaA(rs:List Ru)(x:Sr)(y:Sc){si:Nat}(hs:si<x.scenes.length):∀ j,∀ m∈mnPs rs y si j,MnIn rs x m
 | 0,m,hm=>by cases hm
 | j+1,m,hm=>by
  rw[mnPs]at hm
  rcases List.mem_append.1 hm with hm|hm
  .exact BaA rs x y hs j m hm
  .exact A9Z rs x hs _ _ _ _ _ (Nat.le_refl _) m hm
theorem BaB(rs:List Ru)(x:Sr):∀ i,i<=x.scenes.length->∀ m∈mnSs rs x i,MnIn rs x m
 | 0,_,m,hm=>by cases hm
 | i+1,hi,m,hm=>by
  rw[mnSs]at hm
  rcases List.mem_append.1 hm with hm|hm
  .exact BaB rs x i (by omega) m hm
  .exact BaA rs x _ (by omega) _ m hm
theorem A1J(rs:List Ru)(x:Sr):∀ m∈mnAll rs x,MnIn rs x m:=BaB rs x _ (Nat.le_refl _)
theorem A1K{x:Sr}(hx:StoryOk x)(rs:List Ru)(ts:List Tg):∀ k,NOk (keysK rs ts) x.scenes.length (needM x rs k)
 | 0=>by
  have:needM x rs 0=AvB x:=rfl;rw[this];exact BeN hx rs ts
 | k+1=>by
  have ih:=A1K hx rs ts k
  by_cases hk:k<(mnAll rs x).length
  .rw [AjL x rs k hk]
   have hm:=A1J rs x _ (List.getElem_mem hk);generalize (mnAll rs x)[k]=m at *;obtain⟨h1,h2⟩:=ih.at' m.scene;refine ih.set _ (AeH h1) (AgP h2 ?_);refine List.mem_append_right _ (List.mem_append_left _ (List.mem_map.2 ⟨rs[m.rule]'hm.rule,List.getElem_mem _,?_⟩))
   simp[List.getD,hm.rule]
  .have:needM x rs (k+1)=needM x rs k:=by
    unfold needM;rw[List.take_of_length_le (by omega),List.take_of_length_le (by omega)]
   rw[this];exact ih
theorem BaC{K:List El}{es:NMap}{t:Tg}(h1:AbX es)(h2:AfR K es)(hk:t.el∈K):AbX (AnX es t)/\AfR K (AnX es t):=by
 unfold AnX
 split
 .exact ⟨AtT (AeH h1),A3N (AgP h2 hk)⟩
 .exact ⟨AeH h1,AgP h2 hk⟩
theorem A1L{x:Sr}(hx:StoryOk x)(rs:List Ru)(ts:List Tg):∀ k,NOk (keysK rs ts) x.scenes.length (needA x rs ts k)
 | 0=>by
  have:needA x rs ts 0=needM x rs (mnAll rs x).length:=rfl;rw[this];exact A1K hx rs ts _
 | k+1=>by
  have ih:=A1L hx rs ts k
  by_cases hk:k<ts.length
  .rw [AjM x rs ts k hk]
   have hm:ts[k].el∈keysK rs ts:=List.mem_append_right _ (List.mem_append_right _ (List.mem_map.2 ⟨_,List.getElem_mem hk,rfl⟩));generalize ts[k]=t at *;obtain⟨h1,h2⟩:=ih.at' (noIx x t.scene);obtain⟨h3,h4⟩:=BaC h1 h2 hm;exact ih.set _ h3 h4
  .have:needA x rs ts (k+1)=needA x rs ts k:=by
    unfold needA;rw[List.take_of_length_le (by omega),List.take_of_length_le (by omega)]
   rw[this];exact ih
structure TagsOk(x:Sr)(ts:List Tg):Prop where
 at':∀ t∈ts,∃ i,∃ (h:i<x.scenes.length),x.scenes[i].no=t.scene
 el:∀ t∈ts,elC t.el=0
 n:∀ t∈ts,0<=t.n/\t.n<=999
 dist:ts.Pairwise fun a b=>¬ (a.scene=b.scene/\a.el=b.el)
theorem BkD{x:Sr}(hx:StoryOk x){i:Nat}(h:i<x.scenes.length):noIx x x.scenes[i].no=i:=by
 unfold noIx;refine(List.findIdx_eq h).2 ⟨by simp,fun j hj=>?_⟩;have:x.scenes[j].no≠x.scenes[i].no:=fun e=>by
  have:=hx.inj (show j<x.scenes.length by omega) h e;omega
 simpa using this
theorem BeO{P:NMap->Prop}(h0:P []){N:List NMap}(h:∀ es∈N,P es)(i:Nat):P (N.getD i []):=by
 rw[List.getD_eq_getElem?_getD]
 cases hq:N[i]? with
 | none=>exact h0
 | some es=>exact h es (List.mem_of_getElem? hq)
def tgkA(t:Tg):AV:=.agg [.str t.scene,.int .i64 t.el.kind,.str t.el.name]
def sameTg(a b:Tg):Bool:=a.scene==b.scene&&a.el==b.el
theorem sameTg_iff{a b:Tg}:sameTg a b=true ↔ a.scene=b.scene/\a.el=b.el:=by simp[sameTg]
theorem keyTk(a b:Tg):keyEqT prog 196 (tgkA a) (tgkA b)=some (sameTg a b):=by
 have h9:prog.underlying 9=some .string:=by kernel_rfl
 have h3:prog.underlying 3=some (.int .i64):=by kernel_rfl
 simp only[tgkA,keyEqT,lf196,eqLs,h9,h3,leafEq,bothB,sameTg,el_beq,Bool.and_true,Bool.and_assoc];rfl
theorem isTk(f:Tg):AbZ prog 196 (tgkA f)=true:=by
 unfold AbZ;rw[keyTk]
 simp[sameTg]
def tgkM(l:List Tg):List (AV×AV):=l.map fun f=>(tgkA f,.bool true)
theorem AvC(f:Tg):∀ (l:List Tg)(n:Nat),(∀ g∈l,sameTg f g=false)->mfindT prog 196 (tgkA f) (tgkM l) n=some none
 | [],n,_=>rfl
 | g::r,n,h=>by
  have h1:=h g (by simp)
  show(match keyEqT prog 196 (tgkA f) (tgkA g)with|some true=>_|some false=>mfindT prog 196 (tgkA f) (tgkM r) (n+1)|none=>_)=_
  rw[keyTk,h1];exact AvC f r (n+1) (fun x hx=>h x (by simp[hx]))
theorem AvD(f:Tg):∀ (l:List Tg)(n:Nat),(∃ g∈l,sameTg f g=true)->∃ j,mfindT prog 196 (tgkA f) (tgkM l) n=some (some (j,.bool true))
 | [],n,h=>by obtain⟨g,hg,_⟩:=h; cases hg
 | g::r,n,h=>by
  cases hb:sameTg f g with
  | true =>
   refine⟨n,?_⟩
   show(match keyEqT prog 196 (tgkA f) (tgkA g)with|some true=>_|some false=>mfindT prog 196 (tgkA f) (tgkM r) (n+1)|none=>_)=_
   rw[keyTk,hb]
  | false =>
   obtain⟨j,hj⟩:=AvD f r (n+1) (by
    obtain⟨z,hz,hz2⟩:=h
    rcases List.mem_cons.1 hz with rfl|hz
    .rw [hb]at hz2; cases hz2
    .exact ⟨z,hz,hz2⟩)
   refine⟨j,?_⟩
   show(match keyEqT prog 196 (tgkA f) (tgkA g)with|some true=>_|some false=>mfindT prog 196 (tgkA f) (tgkM r) (n+1)|none=>_)=_
   rw[keyTk,hb];exact hj
theorem BeP(n:Nat)(l:List Tg):lowB n (.mp (tgkM l))=true:=by
 show(tgkM l).all _=true
 rw[List.all_eq_true];intro x hx;simp only[tgkM,List.mem_map]at hx;obtain⟨f,_,rfl⟩:=hx;rfl
theorem BaD(l:List Tg)(i:Nat)(h:i<l.length):(l.map tgA).getD i .any=.agg [.str l[i].scene,.int .i64 l[i].el.kind,.str l[i].el.name,.int .i64 l[i].n]:=by simp[List.getD,h,tgA]
theorem A3O(x:Sr):TagsOk x []:=⟨fun t h=>(by cases h),fun t h=>(by cases h),fun t h=>(by cases h),.nil⟩
theorem AyD{x:Sr}{l:List Tg}{t:Tg}(h:TagsOk x l)(h1:∃ i,∃ (h:i<x.scenes.length),x.scenes[i].no=t.scene)(h2:elC t.el=0)(h3:0<=t.n/\t.n<=999)(h4:∀ g∈l,sameTg t g=false):TagsOk x (l++[t]):=by
 refine⟨fun u hu=>?_,fun u hu=>?_,fun u hu=>?_,?_⟩
 .rcases List.mem_append.1 hu with hu|hu
  .exact h.at' u hu
  .rw [List.mem_singleton.1 hu]; exact h1
 .rcases List.mem_append.1 hu with hu|hu
  .exact h.el u hu
  .rw [List.mem_singleton.1 hu]; exact h2
 .rcases List.mem_append.1 hu with hu|hu
  .exact h.n u hu
  .rw [List.mem_singleton.1 hu]; exact h3
 .rw [List.pairwise_append]
  refine⟨h.dist,List.pairwise_singleton _ _,fun a ha b hb e=>?_⟩;rw[List.mem_singleton.1 hb]at e;have:=h4 a ha;rw[sameTg_iff.2 ⟨e.1.symm,e.2.symm⟩]at this
  cases this
theorem BkE{x:Sr}{k:List UInt8}(h:¬ ∃ i,∃ (h:i<x.scenes.length),x.scenes[i].no=k):mfind .string (.str k) (scMF 0 x.scenes) 0=some none :=
 AnA x.scenes 0 0 fun y hy e=>by
  obtain⟨i,hi,rfl⟩:=List.getElem_of_mem hy;exact h ⟨i,hi,e⟩
theorem ArY{S:Std}(hS:LibOk S)(x:Sr)(hx:StoryOk x)(ts:List Tg)(hl:ts.length<=4)(he:∀ t∈ts,t.el.name.length<1000000):PcH prog S 50 [srA x,.fz 4 (ts.map tgA)] (fun r=>∃ n:Int,r=.int .i64 n/\(n=0 ↔ TagsOk x ts)):=by
 have h1:=AdD hS x hx;have h4:=AnS x hx;have d1:decide ((ts.length:Int)>2000)=false:=by simp; omega
 simp only[srA]at h1 h4 |-;refine zqIB func50 rfl fun h ρ w hg=>?_
 simp only[go_sem];refine zqB hg (h1) ?_;simp only[go_sem,d1,List.length_map]
 repeat refine ai ?_
 refine za (h4 _) ?_;rintro _ _ ⟨rfl,rfl⟩;refine zgB ?_;simp only[go_sem,List.length_map]
 repeat refine ai ?_
 refine AaC (ι:=Nat) (fun i=>ts.length-i) (fun i=>[(27,.int .i64 i),(26,.int .i64 ts.length),(25,.fz 4 (ts.map tgA)),(6,.mp 0),(7,.mp 1)]) (fun i=>[.mp (scMF 0 x.scenes),.mp (tgkM (ts.take i))]) (fun i=>i<=ts.length/\TagsOk x (ts.take i)) 0 ⟨Nat.zero_le _,A3O x⟩ ?_ ?_
 .refine Shift.weakS ?_ rfl
  simp only[go_sem,List.length_map]
  try rfl
 rintro i ⟨g1,g2⟩ J hJ
 by_cases gi:i<ts.length
 rotate_left
 .have di:decide ((i:Int)<(ts.length:Int))=false:=by simp; omega
  rw[List.take_of_length_le (by omega)]at g2;clear hJ;refine zgB ?_;simp only[go_sem,di];exact aret [4] rfl ⟨⟨0,rfl,by simp[g2]⟩,rfl⟩
 have di:decide ((i:Int)<(ts.length:Int))=true:=by simp; omega
 have hget:=BaD ts i gi;have h5:=A8M hS ts[i].el (he _ (List.getElem_mem gi));have hmem:ts[i]∈ts:=List.getElem_mem gi;have m3:=isTk ts[i];have m2:tgkM (ts.take i)++[(tgkA ts[i],.bool true)]=tgkM (ts.take (i+1)):=by
  rw[List.take_add_one,List.getElem?_eq_getElem gi,tgkM,tgkM,List.map_append];rfl
 have htk:ts.take (i+1)=ts.take i++[ts[i]]:=by
  rw[List.take_add_one,List.getElem?_eq_getElem gi];rfl
 have hsn:=@AyD x (ts.take i) (ts[i]) g2;rw[<- htk]at hsn;have hfin:=fun h=>hJ (i+1) ⟨gi,h⟩ (by omega)
 have hdup:(∃ g∈ts.take i,sameTg ts[i] g=true)->¬ TagsOk x ts:=by
  rintro⟨g,hg,hs⟩ hok;obtain⟨j,hj,rfl⟩:=List.getElem_of_mem hg;rw[List.length_take]at hj;rw[List.getElem_take]at hs;have:=List.pairwise_iff_getElem.1 hok.dist j i (by omega) gi (by omega);have h2:=sameTg_iff.1 hs;exact this ⟨h2.1.symm,h2.2.symm⟩
 have hat:(¬ ∃ k,∃ (h:k<x.scenes.length),x.scenes[k].no=ts[i].scene)->¬ TagsOk x ts:=fun h hok=>h (hok.at' _ hmem)
 have hel:elC ts[i].el≠0->¬ TagsOk x ts:=fun h hok=>h (hok.el _ hmem)
 have hcn:¬ (0<=ts[i].n/\ts[i].n<=999)->¬ TagsOk x ts:=fun h hok=>h (hok.n _ hmem)
 have hlow2:=BeP 2 (ts.take (i+1));have hnone:=AvC ts[i] (ts.take i) 0;have hsome:=AvD ts[i] (ts.take i) 0;have hex:(∃ g∈ts.take i,sameTg ts[i] g=true)\/∀ g∈ts.take i,sameTg ts[i] g=false:=by
  by_cases h:∃ g∈ts.take i,sameTg ts[i] g=true
  .exact .inl h
  .refine .inr fun g hg=>?_
   cases hb:sameTg ts[i] g with
   | false=>rfl
   | true=>exact absurd ⟨g,hg,hb⟩ h
 clear hJ htk hmem;generalize hP:(∃ g∈ts.take i,sameTg ts[i] g=true)=P at *;generalize hQ:(∀ g∈ts.take i,sameTg ts[i] g=false)=Q at *;generalize tgkM (ts.take (i+1))=M' at *;generalize tgkM (ts.take i)=M at *;generalize ts[i]=t at *;simp only[tgkA]at m2 m3 hnone hsome;simp only[elA]at h5
 by_cases ga:∃ k,∃ (h:k<x.scenes.length),x.scenes[k].no=t.scene
 rotate_left
 .have m0:=BkE ga
  have hbad:=hat ga;refine zgB ?_;simp only[go_sem,di,hget,m0,List.length_map]
  repeat refine ak ?_
  exact aret [4] rfl ⟨⟨_,rfl,by simp[hbad]⟩,rfl⟩
 obtain⟨q,hq,hqs⟩:=ga;have m0:=AnL hx hq hqs;refine zgB ?_;simp only[go_sem,di,hget,m0,List.length_map]
 repeat refine ak ?_
 by_cases ge:elC t.el=0
 rotate_left
 .have de:(elC t.el != 0)=true:=by simpa using ge
  have hbad:=hel ge;refine zqB hg (h5) ?_;simp only[go_sem,de]
  repeat refine ak ?_
  exact aret [4] rfl ⟨⟨_,rfl,by simp[hbad,ge]⟩,rfl⟩
 rw[ge]at h5
 by_cases gc:0<=t.n/\t.n<=999
 rotate_left
 .have hbad:=hcn gc
  by_cases gc1:t.n<0
  .have dc:decide (t.n<0)=true:=by simp; omega
   refine zqB hg (h5) ?_;simp only[go_sem,dc]
   repeat refine ak ?_
   exact aret [4] rfl ⟨⟨_,rfl,by simp[hbad]⟩,rfl⟩
  .have dc:decide (t.n<0)=false:=by simp; omega
   have dc2:decide (t.n>999)=true:=by simp; omega
   refine zqB hg (h5) ?_;simp only[go_sem,dc,dc2]
   repeat refine ak ?_
   exact aret [4] rfl ⟨⟨_,rfl,by simp[hbad]⟩,rfl⟩
 have dc:decide (t.n<0)=false:=by simp; omega
 have dc2:decide (t.n>999)=false:=by simp; omega
 rcases hex with hp|hn
 .obtain ⟨j,m1⟩:=hsome hp
  have hbad:=hdup hp;refine zqB hg (h5) ?_;simp only[go_sem,dc,dc2,↓m3,↓m1]
  repeat refine ak ?_
  exact aret [4] rfl ⟨⟨_,rfl,by simp[hbad]⟩,rfl⟩
 .have m1:=hnone hn
  have hfin:=hfin (hsn ⟨q,hq,hqs⟩ ge gc hn);refine zqB hg (h5) ?_;simp only[go_sem,dc,dc2,↓m3,↓m1,m2]
  repeat refine ak ?_
  rw[ic i];refine ainv hfin (Shift.low 2 (by simp) (by simp) ?_ ?_)
  .simp only [List.take_succ_cons,List.take_zero,List.all_cons,List.all_nil,↓low_scM,↓hlow2,Bool.and_self]
  .simp only [go_sem]
theorem AyE(mid:Nat)(s:List Blk):Ct prog 53 [.mp mid] s (fun r s'=>r=.fn (.func 110) [.ptr s.length 1 0 0]/\s'=s++[.arr 1 [.mp mid]]):=by
 refine zcIF func53 rfl fun h ρ w=>?_
 simp only[go_sem];exact zt [2]
theorem BkF(mid n m:Nat)(h:mid<m)(q:Option (List Nat)):(itU mid n q).all (lowB (m+(itU mid n q).length))=true:=by
 cases q with
 | none=>rfl
 | some s =>
  simp only[itU,List.all_cons,List.all_nil,Bool.and_true,lowB,decide_eq_true_eq];omega
def apT(T:List Blk)(j:List AV):List Blk:=T++[.arr 1 [.sl (T.length+1) 0 j.length j.length],.arr 4 j]
theorem apT_len(T:List Blk)(j:List AV):(apT T j).length=T.length+2:=by simp[apT]
theorem ArZ{T:List Blk}(hT:T.all (lowB T.length)=true)(l:List Nd):(apT T (l.map ndA)).all (lowB (T.length+2))=true:=by
 unfold apT;rw[List.all_append,List.all_cons,List.all_cons,List.all_nil,Bool.and_true,Bool.and_eq_true,Bool.and_eq_true];refine⟨?_,?_,AaD (A9U l)⟩
 .rw [List.all_eq_true]at hT |-
  exact fun b hb=>AlD (by omega) (hT b hb)
 .simp only [lowB,flat,cellsOf,List.append_nil,List.all_cons,List.all_nil,Bool.and_true,lowC,decide_eq_true_eq]
  omega
theorem AsA{S:Std}(es:NMap)(hl:es.length<1000000)(T:List Blk)(bx mid:Nat)(hbx:T[bx]? = some (.arr 1 [.mp mid]))(hmid:T[mid]? = some (.mp (ndM es)))(hT:T.all (lowB T.length)=true) :
  CtH prog S 158 [.raw (.slice none 0 0),.fn (.func 110) [.ptr bx 1 0 0]] T
   (fun r s'=>∃ seen,AnW es seen/\r=.sl (T.length+1) 0 (ndAt es seen).length (ndAt es seen).length/\s'=apT T ((ndAt es seen).map ndA)):=by
 have hml:=(List.getElem?_eq_some_iff.1 hmid).1;have hit:=A3M (St:=S) (apT T) (T.length+2) bx mid es (fun j=>apT_len T j) (fun j=>by
   unfold apT;rw[List.getElem?_append_left (List.getElem?_eq_some_iff.1 hbx).1,hbx]) (fun j=>by
   unfold apT;rw[List.getElem?_append_left hml,hmid]) (fun y hy=>by
   rw[AlJ es y hy];exact ArZ hT _)
 refine ApG func158 rfl ntmps158 hB158 (by simp) fun h ρ w hg=>?_
 refine goFR ntmps158 300 ?_;simp only[go_sem];refine AWpR.shift (Shift.cells T.length 4 (es:=1) (l:=[.raw (.slice none 0 0)]) [.sl (T++[Blk.arr 1 [.raw (.slice none 0 0)]]).length 0 0 0] gt_at0 rfl (by simp[cellsOf]) ⟨.sl,trivial⟩) ?_;rw[List.append_assoc,st_at0];simp only[List.cons_append,List.nil_append,List.set_cons_zero,List.length_append,List.length_cons,List.length_nil,Nat.zero_add];refine BjR (σ:=Option (List Nat)) (S:=fun j q=>apT T j++itU mid es.length q) (q0:=none) hg rfl ?_ hit (by decide) (fun j q x=>[(2,.ptr T.length 1 0 0),(5,.ptr (apT T j++itU mid es.length q).length 1 0 0)]) (fun j q x=>(apT T j++itU mid es.length q)++[.arr 4 [x]]) (fun j q x=>apT T (j++[x])++(itU mid es.length q++[.arr 4 [x]])) ?_ ?_ ?_ ?_
 .simp only [apT,itU,List.append_nil,List.length_nil]
 .rintro j q x c ⟨seen,i,y,h1,rfl,h3,h4,rfl⟩ hc
  refine A3J (apT T (seen.map (vAt es)++[ndV y.1 y.2])) (itU mid es.length q) [_] rfl ?_ ?_ ?_ trivial
  .rw [hc,List.length_append,apT_len,apT_len]
   exact Nat.le_refl _
  .rw [apT_len]
   have hv:seen.map (vAt es)++[ndV y.1 y.2]=((ndAt es seen)++[(⟨y.1,y.2.1,y.2.2⟩:Nd)]).map ndA:=by
    rw[List.map_append,AlJ es seen h1];rfl
   rw[hv];exact ArZ hT _
  .rw [apT_len]
   exact BkF _ _ _ (by omega) q
 .rintro j q x h1 ρ1 w1 L id J ⟨seen,i,y,a1,rfl,a3,a4,rfl⟩ hg hJ
  obtain⟨⟨k1,k2⟩,v1,v2⟩:=y;simp only[ndV,ndA]at hJ |-;generalize apT T (seen.map (vAt es))++itU mid es.length q=V at *;refine goFR ntmps158 300 ?_;simp only[go_sem,gt_at0,st_at0,List.set_cons_zero,List.getD_cons_zero]
  repeat refine ai ?_
  refine ArE hJ (Shift.weak ?_);simp only[go_sem]
 .rintro j q x h1 ρ1 w1 L id J ⟨seen,i,y,a1,rfl,a3,a4,rfl⟩ hg hJ
  obtain⟨⟨k1,k2⟩,v1,v2⟩:=y;simp only[ndV,ndA]at hJ |-;have hvl:(seen.map (vAt es)).length=seen.length:=by simp
  generalize seen.map (vAt es)=j at *;obtain⟨U,hU⟩:∃ U,U=itU mid es.length q++[Blk.arr 4 [.agg [.int .i64 k1,.str k2,.int .i64 v1,.bool v2]]]:=⟨_,rfl⟩;have e1:(apT T j++itU mid es.length q)++[Blk.arr 4 [.agg [.int .i64 k1,.str k2,.int .i64 v1,.bool v2]]]=T++(.arr 1 [.sl (T.length+1) 0 j.length j.length]::.arr 4 j::U):=by
   rw[hU,apT]
   simp
  have e2:apT T (j++[.agg [.int .i64 k1,.str k2,.int .i64 v1,.bool v2]])++(itU mid es.length q++[Blk.arr 4 [.agg [.int .i64 k1,.str k2,.int .i64 v1,.bool v2]]])=T++(.arr 1 [.sl (T.length+1) 0 (j.length+1) (j.length+1)]::.arr 4 (j++[.agg [.int .i64 k1,.str k2,.int .i64 v1,.bool v2]])::U):=by
   rw[hU,apT]
   simp
  have e3:(apT T j++itU mid es.length q).length=T.length+(2+(itU mid es.length q).length):=by
   rw[List.length_append,apT_len];omega
  have e4:∀ d,(T++(.arr 1 [.sl (T.length+1) 0 j.length j.length]::.arr 4 j::U)).getD (T.length+(2+(itU mid es.length q).length)) d=.arr 4 [.agg [.int .i64 k1,.str k2,.int .i64 v1,.bool v2]]:=fun d=>by
   rw[gt_at,show 2+(itU mid es.length q).length=(itU mid es.length q).length+1+1 by omega,List.getD_cons_succ,List.getD_cons_succ,hU]
   simp[List.getD]
  rw[e1]at hJ |-;rw[e2]at hJ;rw[e3];clear e1 e2 e3 hU;refine goFR ntmps158 300 ?_;simp only[go_sem,e4,gt_at,gt_at0,st_at,st_at0,List.set_cons_zero,List.set_cons_succ,List.getD_cons_zero,List.getD_cons_succ]
  repeat refine ai ?_
  refine ArE hJ (Shift.weak ?_);simp only[go_sem]
 .rintro _ ⟨seen,hLA,rfl⟩ D q hD
  have hsl:=hLA.2.1;rw[AlJ es seen hsl];refine AWpR.shift (AcP (e':=[(2,.ptr T.length 1 0 0)]) (apT T ((ndAt es seen).map ndA)) [] (itU mid es.length q) (by rw[List.nil_append]) (by rw[apT_len]; show T.length<=_; omega) (by rw[apT_len]; exact ArZ hT _) rfl (by
   rw[apT_len];simp only[go_sem,List.length_nil]
   simp)) ?_
  rw[List.append_nil];unfold apT;refine goFR ntmps158 300 ?_;simp only[go_sem,gt_at,gt_at0,List.getD_cons_zero,List.getD_cons_succ];exact aretM (.inr rfl) hD [4] rfl ⟨seen,hLA,by simp only[resV,Av.get,Av.put,beq_self_eq_true,cond_true,List.length_map],rfl⟩
theorem AyF{S:Std}(es:NMap)(hl:es.length<1000000)(T:List Blk)(bx mid:Nat)(hbx:T[bx]? = some (.arr 1 [.mp mid]))(hmid:T[mid]? = some (.mp (ndM es)))(hT:T.all (lowB T.length)=true) :
  CtH prog S 108 [.fn (.func 110) [.ptr bx 1 0 0]] T
   (fun r s'=>∃ seen,AnW es seen/\r=.sl (T.length+1) 0 (ndAt es seen).length (ndAt es seen).length/\s'=apT T ((ndAt es seen).map ndA)):=by
 have h1:=AsA (S:=S) es hl T bx mid hbx hmid hT;refine zdIF func108 rfl fun h ρ w hg=>?_
 simp only[go_sem];refine zaH hg (h1) ?_;rintro _ _ ⟨seen,a1,rfl,rfl⟩;refine zgF ?_;simp only[go_sem];exact aret [2] rfl ⟨seen,a1,rfl,rfl⟩
theorem AoJ{S:Std}(es:NMap)(hu:AbX es)(hl:es.length<1000000)(h12:(lvN es).length<=12)(T:List Blk)(bx mid:Nat)(hbx:T[bx]? = some (.arr 1 [.mp mid]))(hmid:T[mid]? = some (.mp (ndM es)))(hT:T.all (lowB T.length)=true) :
  CtH prog S 52 [.fn (.func 110) [.ptr bx 1 0 0],.fn (.func 54) []] T
   (fun r s'=>∃ l,ArX es l/\l.length<=12/\r=.sl (T.length+1) 0 l.length l.length/\s'=apT T (l.map ndA)):=by
 have h1:=AyF (S:=S) es hl T bx mid hbx hmid hT;refine zdIF func52 rfl fun h ρ w hg=>?_
 simp only[go_sem];refine zaH hg (h1) ?_;rintro _ _ ⟨seen,a1,rfl,rfl⟩;have hp:=BeM a1;have hle:=hp.length_eq;have hs:=BmO (ndAt es seen) (apT T ((ndAt es seen).map ndA)) (T.length+1) (by rw[apT_len]; omega) (by omega);unfold AlH apT at hs;simp only[st_at,List.set_cons_succ,List.set_cons_zero]at hs;unfold apT;refine zgF ?_;simp only[go_sem];refine za (hs) ?_;rintro _ _ ⟨rfl,l',rfl,h2,h3⟩;refine zgF ?_;simp only[go_sem];have e:((ndAt es seen).map ndA).length=(l'.map ndA).length:=by simp[h2.length_eq]
 exact aret [4] rfl ⟨l',AoI hu (h2.trans hp) h3,by rw[h2.length_eq]; omega,by simp only[resV,Av.get,Av.put,beq_self_eq_true,cond_true,h2.length_eq],by rw[e]⟩
