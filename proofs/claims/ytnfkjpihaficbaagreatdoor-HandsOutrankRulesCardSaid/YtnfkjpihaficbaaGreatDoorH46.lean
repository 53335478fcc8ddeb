/- The needs of scenes: plain law. Own work of this seat. -/
import Derived.Test.YtnfkjpihaficbaaGreatDoorH45
set_option maxRecDepth 100000
set_option linter.unusedSimpArgs false
set_option linter.unusedVariables false
namespace Go.Proofs.YtnfkjpihaficbaaGreatDoor
open Go Go.Av Go.RowKit
def lvN (es:NMap):List Nd:=es.filterMap fun x=>x.map fun y=>⟨y.1,y.2.1,y.2.2⟩
def NeedsOf (es:NMap) (l:List Nd):Prop:=(∀ y:Nd,y ∈ l ↔ tval y.el es=some (y.n,y.hand))∧l.Pairwise ndLt
theorem lvN_mem {es:NMap} (hu:Tuniq es) (y:Nd):y ∈ lvN es ↔ tval y.el es=some (y.n,y.hand):=by
 rw [tval_mem hu]
 unfold lvN
 rw [List.mem_filterMap]
 constructor
 ·rintro ⟨x,hx,e⟩
  cases x with
  | none=>cases e
  | some x =>
   simp only [Option.map_some,Option.some.injEq] at e
   subst e
   exact hx
 ·intro h
  exact ⟨_,h,by cases y; rfl⟩
theorem lvN_keys:∀ {es:NMap},Tuniq es→(lvN es).Pairwise fun a b=>a.el ≠ b.el
 | [],_=>.nil
 | none :: es,h=>lvN_keys (es:=es) (List.pairwise_cons.1 h).2
 | some x :: es,h=>by
  obtain ⟨h1,h2⟩:=List.pairwise_cons.1 h
  show List.Pairwise _ ((⟨x.1,x.2.1,x.2.2⟩:Nd) :: lvN es)
  refine List.pairwise_cons.2 ⟨fun b hb=>?_,lvN_keys h2⟩
  obtain ⟨z,hz,e⟩:=List.mem_filterMap.1 hb
  cases z with
  | none=>cases e
  | some z =>
   simp only [Option.map_some,Option.some.injEq] at e
   subst e
   exact h1 _ hz x z rfl rfl
theorem needsOf_sorted {es:NMap} (hu:Tuniq es) {l:List Nd} (hp:l.Perm (lvN es)) (hs:l.Pairwise fun x y=>¬ ndLt y x):NeedsOf es l:=by
 refine ⟨fun y=>by rw [hp.mem_iff,lvN_mem hu],?_⟩
 have hk:l.Pairwise fun a b=>a.el ≠ b.el:=hp.symm.pairwise (lvN_keys hu) fun h e=>h e.symm
 refine (hs.and hk).imp fun {a b} h=>?_
 by_cases hl:ndLt a b
 ·exact hl
 ·exact absurd (elO.total _ _ hl h.1) h.2
def ndAt (es:NMap) (seen:List Nat):List Nd:=seen.filterMap fun i=>(es[i]?.join).map fun y=>⟨y.1,y.2.1,y.2.2⟩
theorem ndAt_perm (es:NMap):∀ seen:List Nat,seen.Perm (List.range es.length)→(ndAt es seen).Perm (lvN es):=by
 intro seen hp
 have h1:(ndAt es seen).Perm (ndAt es (List.range es.length)):=hp.filterMap _
 refine h1.trans (.of_eq ?_)
 unfold ndAt lvN
 have key:∀ (l pre:NMap),(List.range' pre.length l.length).filterMap (fun i=>(((pre++l)[i]?).join).map fun y=>(⟨y.1,y.2.1,y.2.2⟩:Nd))=l.filterMap fun x=>x.map fun y=>⟨y.1,y.2.1,y.2.2⟩:=by
  intro l
  induction l with
  | nil=>intro pre; rfl
  | cons a l ih =>
   intro pre
   have h:=ih (pre++[a])
   rw [List.append_assoc,List.singleton_append,List.length_append,List.length_singleton] at h
   rw [List.length_cons,List.range'_succ,List.filterMap_cons,List.filterMap_cons,h]
   have:(pre++a :: l)[pre.length]? = some a:=by simp
   rw [this]
   rfl
 have:=key es []
 rw [List.nil_append] at this
 rw [List.range_eq_range']
 exact this
theorem ndAt_all {es:NMap} {seen:List Nat} (h:LiveAll es seen):(ndAt es seen).Perm (lvN es):=by
 obtain ⟨hn,hlt,hall⟩:=h
 have hp:((List.range es.length).filter (fun i=>decide (i ∈ seen))).Perm seen:=by
  rw [List.perm_ext_iff_of_nodup ((List.nodup_range).filter _) hn]
  intro i
  simp only [List.mem_filter,List.mem_range,decide_eq_true_eq]
  constructor
  ·exact fun h=>h.2
  ·intro h
   obtain ⟨y,hy⟩:=hlt i h
   exact ⟨(List.getElem?_eq_some_iff.1 hy).1,h⟩
 have h1:(ndAt es seen).Perm (ndAt es ((List.range es.length).filter (fun i=>decide (i ∈ seen)))):=(hp.filterMap _).symm
 refine h1.trans ?_
 have h2:ndAt es ((List.range es.length).filter (fun i=>decide (i ∈ seen)))=ndAt es (List.range es.length):=by
  unfold ndAt
  rw [List.filterMap_filter]
  refine fm_congr ?_
  intro i hi
  by_cases hs:i ∈ seen
  ·simp [hs]
  ·simp only [hs,decide_false]
   cases hq:es[i]? with
   | none=>rfl
   | some o =>
    cases o with
    | none=>rfl
    | some y=>exact absurd (hall i y hq) hs
 rw [h2]
 exact ndAt_perm es _ (.refl _)
theorem ndAt_map (es:NMap):∀ (seen:List Nat),(∀ i ∈ seen,∃ y,es[i]? = some (some y))→seen.map (vAt es)=(ndAt es seen).map ndA
 | [],_=>rfl
 | i :: r,h=>by
  obtain ⟨y,hy⟩:=h i (by simp)
  have ih:=ndAt_map es r fun j hj=>h j (by simp [hj])
  have h1:vAt es i=ndA ⟨y.1,y.2.1,y.2.2⟩:=by
   unfold vAt ndM
   rw [List.getD_eq_getElem?_getD,List.getElem?_map,hy]
   rfl
  have h2:ndAt es (i :: r)=⟨y.1,y.2.1,y.2.2⟩ :: ndAt es r:=by
   unfold ndAt
   rw [List.filterMap_cons,hy]
   rfl
  rw [List.map_cons,ih,h1,h2,List.map_cons]
theorem lvs_ndM:∀ es:NMap,(lvs (ndM es)).length=(lvN es).length
 | []=>rfl
 | none :: r=>by
  have:(lvs (ndM (none :: r))).length=(lvs (ndM r)).length:=rfl
  rw [this,lvs_ndM r]
  rfl
 | some x :: r=>by
  have:(lvs (ndM (some x :: r))).length=(lvs (ndM r)).length+1:=rfl
  rw [this,lvs_ndM r]
  rfl
def KeysIn (K:List El) (es:NMap):Prop:=∀ y,some y ∈ es→y.1 ∈ K
theorem keysIn_put {K:List El} {es:NMap} {k:El} {v:Int × Bool} (h:KeysIn K es) (hk:k ∈ K):KeysIn K (tput es k v):=by
 intro y hy
 unfold tput at hy
 split at hy
 ·rcases List.mem_or_eq_of_mem_set hy with hy | hy
  ·exact h y hy
  ·cases hy; exact hk
 ·rcases List.mem_append.1 hy with hy | hy
  ·exact h y hy
  ·simp only [List.mem_singleton,Option.some.injEq] at hy
   subst hy
   exact hk
theorem keysIn_del {K:List El} {es:NMap} {k:El} (h:KeysIn K es):KeysIn K (tdel es k):=by
 intro y hy
 unfold tdel at hy
 split at hy
 ·rcases List.mem_or_eq_of_mem_set hy with hy | hy
  ·exact h y hy
  ·cases hy
 ·exact h y hy
theorem nodup_le:∀ {l K:List El},l.Nodup→(∀ x ∈ l,x ∈ K)→l.length ≤ K.length
 | [],_,_,_=>by simp
 | a :: l,K,hn,h=>by
  obtain ⟨h1,h2⟩:=List.nodup_cons.1 hn
  have ha:=h a (by simp)
  have ih:=nodup_le (K:=K.erase a) h2 fun x hx=>by
   have hxa:x ≠ a:=fun e=>h1 (e ▸ hx)
   exact (List.mem_erase_of_ne hxa).2 (h x (by simp [hx]))
  have:=List.length_erase_of_mem ha
  have hpos:0 < K.length:=List.length_pos_of_mem ha
  simp only [List.length_cons]
  omega
theorem lvN_len {K:List El} {es:NMap} (hu:Tuniq es) (h:KeysIn K es):(lvN es).length ≤ K.length:=by
 have hn:((lvN es).map (·.el)).Nodup:=List.pairwise_map.2 (lvN_keys hu)
 have:=nodup_le (K:=K) hn fun x hx=>by
  obtain ⟨y,hy,rfl⟩:=List.mem_map.1 hx
  have h1:=(lvN_mem hu y).1 hy
  rw [tval_mem hu] at h1
  exact h _ h1
 simpa using this
def cueN (es:NMap) (p:Pa):NMap:=if p.kind=2 then tput es ⟨11,p.text⟩ (1,false) else es
def cuesN (ps:List Pa) (j:Nat):NMap:=(ps.take j).foldl cueN []
def mnStep (rs:List Ru) (es:NMap) (m:Mn):NMap:=tput es (rs.getD m.rule ru00).el (if ((tval (rs.getD m.rule ru00).el es).getD (0,false)).1 < m.c then m.c else ((tval (rs.getD m.rule ru00).el es).getD (0,false)).1,false)
def stepM (rs:List Ru) (N:List NMap) (m:Mn):List NMap:=N.set m.scene (mnStep rs (N.getD m.scene []) m)
def tgStep (es:NMap) (t:Tg):NMap:=if t.n=0 then tdel (tput es t.el (t.n,true)) t.el else tput es t.el (t.n,true)
def noIx (x:Sr) (no:List UInt8):Nat:=x.scenes.findIdx (fun y=>y.no == no)
def stepT (x:Sr) (N:List NMap) (t:Tg):List NMap:=N.set (noIx x t.scene) (tgStep (N.getD (noIx x t.scene) []) t)
def needC (x:Sr):List NMap:=x.scenes.map fun y=>cuesN y.paras y.paras.length
def needM (x:Sr) (rs:List Ru) (k:Nat):List NMap:=((mnAll rs x).take k).foldl (stepM rs) (needC x)
def needA (x:Sr) (rs:List Ru) (ts:List Tg) (k:Nat):List NMap:=(ts.take k).foldl (stepT x) (needM x rs (mnAll rs x).length)
theorem cuesN_step (ps:List Pa) (j:Nat) (h:j < ps.length):cuesN ps (j+1)=cueN (cuesN ps j) ps[j]:=by
 unfold cuesN
 rw [List.take_add_one,List.getElem?_eq_getElem h,List.foldl_append]
 rfl
theorem needM_step (x:Sr) (rs:List Ru) (k:Nat) (h:k < (mnAll rs x).length):needM x rs (k+1)=stepM rs (needM x rs k) (mnAll rs x)[k]:=by
 unfold needM
 rw [List.take_add_one,List.getElem?_eq_getElem h,List.foldl_append]
 rfl
theorem needA_step (x:Sr) (rs:List Ru) (ts:List Tg) (k:Nat) (h:k < ts.length):needA x rs ts (k+1)=stepT x (needA x rs ts k) ts[k]:=by
 unfold needA
 rw [List.take_add_one,List.getElem?_eq_getElem h,List.foldl_append]
 rfl
structure NOk (K:List El) (n:Nat) (N:List NMap):Prop where
 len:N.length=n
 all:∀ es ∈ N,Tuniq es∧KeysIn K es
theorem NOk.at' {K:List El} {n:Nat} {N:List NMap} (h:NOk K n N) (i:Nat):Tuniq (N.getD i [])∧KeysIn K (N.getD i []):=by
 rw [List.getD_eq_getElem?_getD]
 cases hq:N[i]? with
 | none=>exact ⟨.nil,fun y hy=>by cases hy⟩
 | some es=>exact h.all es (List.mem_of_getElem? hq)
theorem NOk.set {K:List El} {n:Nat} {N:List NMap} (h:NOk K n N) (i:Nat) {es:NMap} (h1:Tuniq es) (h2:KeysIn K es):NOk K n (N.set i es):=by
 refine ⟨by rw [List.length_set]; exact h.len,fun e he=>?_⟩
 rcases List.mem_or_eq_of_mem_set he with he | rfl
 ·exact h.all e he
 ·exact ⟨h1,h2⟩
theorem cuesN_ok {K:List El} (ps:List Pa) (hk:∀ p ∈ ps,p.kind=2→(⟨11,p.text⟩:El) ∈ K):∀ j,Tuniq (cuesN ps j)∧KeysIn K (cuesN ps j)
 | 0=>⟨.nil,fun y hy=>by cases hy⟩
 | j+1=>by
  obtain ⟨h1,h2⟩:=cuesN_ok ps hk j
  by_cases hj:j < ps.length
  ·rw [cuesN_step ps j hj]
   unfold cueN
   split
   ·rename_i he
    exact ⟨tuniq_put h1,keysIn_put h2 (hk _ (List.getElem_mem hj) he)⟩
   ·exact ⟨h1,h2⟩
  ·have:cuesN ps (j+1)=cuesN ps j:=by
    unfold cuesN
    rw [List.take_of_length_le (by omega),List.take_of_length_le (by omega)]
   rw [this]
   exact ⟨h1,h2⟩
def keysK (rs:List Ru) (ts:List Tg):List El:=(NameL.map fun s=>(⟨11,s⟩:El))++(rs.map (·.el)++ts.map (·.el))
theorem keysK_len (rs:List Ru) (ts:List Tg):(keysK rs ts).length=4+(rs.length+ts.length):=by
 simp only [keysK,List.length_append,List.length_map]
 rfl
theorem needC_ok {x:Sr} (hx:StoryOk x) (rs:List Ru) (ts:List Tg):NOk (keysK rs ts) x.scenes.length (needC x):=by
 refine ⟨by simp [needC],fun es he=>?_⟩
 obtain ⟨y,hy,rfl⟩:=List.mem_map.1 he
 refine cuesN_ok y.paras (fun p hp h2=>?_) _
 obtain ⟨i,hi,rfl⟩:=List.getElem_of_mem hy
 have hd:=(hx.all i hi).all p hp
 exact List.mem_append_left _ (List.mem_map.2 ⟨p.text,hd.name h2,rfl⟩)
structure MnIn (rs:List Ru) (x:Sr) (m:Mn):Prop where
 rule:m.rule < rs.length
 scene:m.scene < x.scenes.length
theorem mnRs_in (rs:List Ru) (x:Sr) {si:Nat} (hs:si < x.scenes.length) (pi:Nat) (set:List UInt8) (kind:Int) (ws:List (List UInt8)):∀ n,n ≤ rs.length→∀ m ∈ mnRs rs si pi set kind ws n,MnIn rs x m
 | 0,_,m,hm=>by cases hm
 | n+1,hn,m,hm=>by
  rw [mnRs] at hm
  rcases List.mem_append.1 hm with hm | hm
  ·exact mnRs_in rs x hs pi set kind ws n (by omega) m hm
  ·unfold mnR mnH at hm
   cases ha:appI (rs.getD n ru00) set kind with
   | false=>rw [ha] at hm; cases hm
   | true =>
    rw [ha,cond_true] at hm
    obtain ⟨h,_,rfl⟩:=List.mem_map.1 hm
    exact ⟨by simp only; omega,hs⟩
theorem mnPs_in (rs:List Ru) (x:Sr) (y:Sc) {si:Nat} (hs:si < x.scenes.length):∀ j,∀ m ∈ mnPs rs y si j,MnIn rs x m
 | 0,m,hm=>by cases hm
 | j+1,m,hm=>by
  rw [mnPs] at hm
  rcases List.mem_append.1 hm with hm | hm
  ·exact mnPs_in rs x y hs j m hm
  ·exact mnRs_in rs x hs _ _ _ _ _ (Nat.le_refl _) m hm
theorem mnSs_in (rs:List Ru) (x:Sr):∀ i,i ≤ x.scenes.length→∀ m ∈ mnSs rs x i,MnIn rs x m
 | 0,_,m,hm=>by cases hm
 | i+1,hi,m,hm=>by
  rw [mnSs] at hm
  rcases List.mem_append.1 hm with hm | hm
  ·exact mnSs_in rs x i (by omega) m hm
  ·exact mnPs_in rs x _ (by omega) _ m hm
theorem mnAll_in (rs:List Ru) (x:Sr):∀ m ∈ mnAll rs x,MnIn rs x m:=mnSs_in rs x _ (Nat.le_refl _)
theorem needM_ok {x:Sr} (hx:StoryOk x) (rs:List Ru) (ts:List Tg):∀ k,NOk (keysK rs ts) x.scenes.length (needM x rs k)
 | 0=>by
  have:needM x rs 0=needC x:=rfl
  rw [this]
  exact needC_ok hx rs ts
 | k+1=>by
  have ih:=needM_ok hx rs ts k
  by_cases hk:k < (mnAll rs x).length
  ·rw [needM_step x rs k hk]
   have hm:=mnAll_in rs x _ (List.getElem_mem hk)
   generalize (mnAll rs x)[k]=m at *
   obtain ⟨h1,h2⟩:=ih.at' m.scene
   refine ih.set _ (tuniq_put h1) (keysIn_put h2 ?_)
   refine List.mem_append_right _ (List.mem_append_left _ (List.mem_map.2 ⟨rs[m.rule]'hm.rule,List.getElem_mem _,?_⟩))
   simp [List.getD,hm.rule]
  ·have:needM x rs (k+1)=needM x rs k:=by
    unfold needM
    rw [List.take_of_length_le (by omega),List.take_of_length_le (by omega)]
   rw [this]
   exact ih
theorem tgStep_ok {K:List El} {es:NMap} {t:Tg} (h1:Tuniq es) (h2:KeysIn K es) (hk:t.el ∈ K):Tuniq (tgStep es t)∧KeysIn K (tgStep es t):=by
 unfold tgStep
 split
 ·exact ⟨tuniq_del (tuniq_put h1),keysIn_del (keysIn_put h2 hk)⟩
 ·exact ⟨tuniq_put h1,keysIn_put h2 hk⟩
theorem needA_ok {x:Sr} (hx:StoryOk x) (rs:List Ru) (ts:List Tg):∀ k,NOk (keysK rs ts) x.scenes.length (needA x rs ts k)
 | 0=>by
  have:needA x rs ts 0=needM x rs (mnAll rs x).length:=rfl
  rw [this]
  exact needM_ok hx rs ts _
 | k+1=>by
  have ih:=needA_ok hx rs ts k
  by_cases hk:k < ts.length
  ·rw [needA_step x rs ts k hk]
   have hm:ts[k].el ∈ keysK rs ts:=List.mem_append_right _ (List.mem_append_right _ (List.mem_map.2 ⟨_,List.getElem_mem hk,rfl⟩))
   generalize ts[k]=t at *
   obtain ⟨h1,h2⟩:=ih.at' (noIx x t.scene)
   obtain ⟨h3,h4⟩:=tgStep_ok h1 h2 hm
   exact ih.set _ h3 h4
  ·have:needA x rs ts (k+1)=needA x rs ts k:=by
    unfold needA
    rw [List.take_of_length_le (by omega),List.take_of_length_le (by omega)]
   rw [this]
   exact ih
structure TagsOk (x:Sr) (ts:List Tg):Prop where
 at':∀ t ∈ ts,∃ i,∃ (h:i < x.scenes.length),x.scenes[i].no=t.scene
 el:∀ t ∈ ts,elC t.el=0
 n:∀ t ∈ ts,0 ≤ t.n∧t.n ≤ 999
 dist:ts.Pairwise fun a b=>¬ (a.scene=b.scene∧a.el=b.el)
theorem noIx_at {x:Sr} (hx:StoryOk x) {i:Nat} (h:i < x.scenes.length):noIx x x.scenes[i].no=i:=by
 unfold noIx
 refine (List.findIdx_eq h).2 ⟨by simp,fun j hj=>?_⟩
 have:x.scenes[j].no ≠ x.scenes[i].no:=fun e=>by
  have:=hx.inj (show j < x.scenes.length by omega) h e
  omega
 simpa using this
theorem foldT_at {x:Sr} (hx:StoryOk x) {i:Nat} (hi:i < x.scenes.length):∀ (ts:List Tg) (N:List NMap),N.length=x.scenes.length→(∀ t ∈ ts,∃ i,∃ (h:i < x.scenes.length),x.scenes[i].no=t.scene) →
  (ts.foldl (stepT x) N).getD i []=(ts.filter (fun t=>t.scene == x.scenes[i].no)).foldl tgStep (N.getD i [])
 | [],N,_,_=>rfl
 | t :: ts,N,hN,h=>by
  obtain ⟨j,hj,hjs⟩:=h t (by simp)
  have hix:noIx x t.scene=j:=by rw [← hjs]; exact noIx_at hx hj
  have ih:=foldT_at hx hi ts (stepT x N t) (by unfold stepT; rw [List.length_set]; exact hN) fun t ht=>h t (by simp [ht])
  rw [List.foldl_cons,ih]
  by_cases hij:j=i
  ·subst hij
   have h1:(t.scene == x.scenes[j].no)=true:=by simp [hjs]
   simp only [List.filter_cons,h1,if_true,List.foldl_cons]
   congr 1
   unfold stepT
   rw [hix]
   simp [List.getD,hN,hj]
  ·have h1:(t.scene == x.scenes[i].no)=false:=by
    rw [beq_eq_false_iff_ne]
    intro e
    exact hij (hx.inj hj hi (hjs.trans e))
   simp only [List.filter_cons,h1,Bool.false_eq_true,if_false]
   congr 1
   unfold stepT
   rw [hix]
   simp [List.getD,List.getElem?_set_ne hij]
theorem tgStep_val {es:NMap} (hu:Tuniq es) (t:Tg) (e:El):tval e (tgStep es t)=if e=t.el then (if t.n=0 then none else some (t.n,true)) else tval e es:=by
 unfold tgStep
 by_cases hn:t.n=0
 ·rw [if_pos hn,tval_del (tuniq_put hu),tval_put hu]
  by_cases he:e=t.el
  ·simp [he,hn]
  ·simp [he]
 ·rw [if_neg hn,tval_put hu]
  by_cases he:e=t.el
  ·simp [he,hn]
  ·simp [he]
theorem tgRun_val (e:El):∀ (ts:List Tg) (es:NMap),Tuniq es→(ts.Pairwise fun a b=>a.el ≠ b.el) →
  tval e (ts.foldl tgStep es)=(match ts.find? (fun t=>t.el == e) with | none=>tval e es | some t=>if t.n=0 then none else some (t.n,true))
 | [],es,_,_=>rfl
 | t :: ts,es,hu,hd=>by
  obtain ⟨h1,h2⟩:=List.pairwise_cons.1 hd
  have hu2:Tuniq (tgStep es t):=by
   unfold tgStep
   split
   ·exact tuniq_del (tuniq_put hu)
   ·exact tuniq_put hu
  rw [List.foldl_cons,tgRun_val e ts _ hu2 h2]
  by_cases he:t.el=e
  ·have hf:ts.find? (fun t=>t.el == e)=none:=by
    rw [List.find?_eq_none]
    intro b hb
    have:=h1 b hb
    rw [he] at this
    simpa using Ne.symm this
   rw [hf,List.find?_cons_of_pos (by simpa using he)]
   simp only
   rw [tgStep_val hu,if_pos he.symm]
  ·rw [List.find?_cons_of_neg (by simpa using he)]
   cases hf:ts.find? (fun t=>t.el == e) with
   | none =>
    simp only
    rw [tgStep_val hu,if_neg (Ne.symm he)]
   | some t2=>rfl
theorem needA_val {x:Sr} (hx:StoryOk x) (rs:List Ru) (ts:List Tg) (ht:TagsOk x ts) {i:Nat} (hi:i < x.scenes.length) (e:El) :
  tval e ((needA x rs ts ts.length).getD i [])=(match ts.find? (fun t=>t.scene == x.scenes[i].no && t.el == e) with
   | none=>tval e ((needA x rs [] 0).getD i [])
   | some t=>if t.n=0 then none else some (t.n,true)):=by
 have hM:=needM_ok hx rs ts (mnAll rs x).length
 have h1:needA x rs ts ts.length=ts.foldl (stepT x) (needM x rs (mnAll rs x).length):=by
  unfold needA
  rw [List.take_of_length_le (Nat.le_refl _)]
 have h2:needA x rs [] 0=needM x rs (mnAll rs x).length:=rfl
 rw [h1,h2,foldT_at hx hi ts _ hM.len ht.at',tgRun_val e _ _ (hM.at' i).1]
 ·rw [List.find?_filter]
  simp only [Bool.decide_and,Bool.decide_eq_true]
 ·refine List.pairwise_filter.2 (ht.dist.imp_of_mem fun {a b} _ _ h ha hb he=>h ⟨?_,he⟩)
  simp only [beq_iff_eq] at ha hb
  rw [ha,hb]
theorem getD_all {P:NMap→Prop} (h0:P []) {N:List NMap} (h:∀ es ∈ N,P es) (i:Nat):P (N.getD i []):=by
 rw [List.getD_eq_getElem?_getD]
 cases hq:N[i]? with
 | none=>exact h0
 | some es=>exact h es (List.mem_of_getElem? hq)
def tagAt (ts:List Tg) (no:List UInt8) (e:El):Option Tg:=ts.find? (fun t=>t.scene == no && t.el == e)
theorem law_none {x:Sr} (hx:StoryOk x) {rs:List Ru} {ts:List Tg} (ht:TagsOk x ts) {i:Nat} (hi:i < x.scenes.length) {A B:List Nd} (hA:NeedsOf ((needA x rs ts ts.length).getD i []) A) (hB:NeedsOf ((needA x rs [] 0).getD i []) B) (e:El) (n:Int)
  (h:tagAt ts x.scenes[i].no e=none):(⟨e,n,false⟩:Nd) ∈ B ↔ (⟨e,n,false⟩:Nd) ∈ A:=by
 unfold tagAt at h
 have:=needA_val hx rs ts ht hi e
 rw [h] at this
 rw [hA.1,hB.1,this]
theorem law_some {x:Sr} (hx:StoryOk x) {rs:List Ru} {ts:List Tg} (ht:TagsOk x ts) {i:Nat} (hi:i < x.scenes.length) {A:List Nd} (hA:NeedsOf ((needA x rs ts ts.length).getD i []) A) (e:El) {t:Tg}
  (h:tagAt ts x.scenes[i].no e=some t):∀ m ∈ A,m.el=e→m.n=t.n∧m.hand=true:=by
 intro m hm he
 unfold tagAt at h
 have:=needA_val hx rs ts ht hi e
 rw [h] at this
 have h1:=(hA.1 m).1 hm
 rw [he,this] at h1
 simp only at h1
 split at h1
 ·cases h1
 ·simp only [Option.some.injEq,Prod.mk.injEq] at h1
  exact ⟨h1.1.symm,h1.2.symm⟩
def tgkA (t:Tg):AV:=.agg [.str t.scene,.int .i64 t.el.kind,.str t.el.name]
def sameTg (a b:Tg):Bool:=a.scene == b.scene && a.el == b.el
theorem sameTg_iff {a b:Tg}:sameTg a b=true ↔ a.scene=b.scene∧a.el=b.el:=by simp [sameTg]
theorem keyTk (a b:Tg):keyEqT Tryz.prog 196 (tgkA a) (tgkA b)=some (sameTg a b):=by
 have h9:Tryz.prog.underlying 9=some .string:=by kernel_rfl
 have h3:Tryz.prog.underlying 3=some (.int .i64):=by kernel_rfl
 simp only [tgkA,keyEqT,lf196,eqLs,h9,h3,leafEq,bothB,sameTg,el_beq,Bool.and_true,Bool.and_assoc]
 rfl
theorem isTk (f:Tg):isKeyT Tryz.prog 196 (tgkA f)=true:=by
 unfold isKeyT
 rw [keyTk]
 simp [sameTg]
def tgkM (l:List Tg):List (AV × AV):=l.map fun f=>(tgkA f,.bool true)
theorem tgkM_none (f:Tg):∀ (l:List Tg) (n:Nat),(∀ g ∈ l,sameTg f g=false)→mfindT Tryz.prog 196 (tgkA f) (tgkM l) n=some none
 | [],n,_=>rfl
 | g :: r,n,h=>by
  have h1:=h g (by simp)
  show (match keyEqT Tryz.prog 196 (tgkA f) (tgkA g) with | some true=>_ | some false=>mfindT Tryz.prog 196 (tgkA f) (tgkM r) (n+1) | none=>_)=_
  rw [keyTk,h1]
  exact tgkM_none f r (n+1) (fun x hx=>h x (by simp [hx]))
theorem tgkM_some (f:Tg):∀ (l:List Tg) (n:Nat),(∃ g ∈ l,sameTg f g=true)→∃ j,mfindT Tryz.prog 196 (tgkA f) (tgkM l) n=some (some (j,.bool true))
 | [],n,h=>by obtain ⟨g,hg,_⟩:=h; cases hg
 | g :: r,n,h=>by
  cases hb:sameTg f g with
  | true =>
   refine ⟨n,?_⟩
   show (match keyEqT Tryz.prog 196 (tgkA f) (tgkA g) with | some true=>_ | some false=>mfindT Tryz.prog 196 (tgkA f) (tgkM r) (n+1) | none=>_)=_
   rw [keyTk,hb]
  | false =>
   obtain ⟨j,hj⟩:=tgkM_some f r (n+1) (by
    obtain ⟨z,hz,hz2⟩:=h
    rcases List.mem_cons.1 hz with rfl | hz
    ·rw [hb] at hz2; cases hz2
    ·exact ⟨z,hz,hz2⟩)
   refine ⟨j,?_⟩
   show (match keyEqT Tryz.prog 196 (tgkA f) (tgkA g) with | some true=>_ | some false=>mfindT Tryz.prog 196 (tgkA f) (tgkM r) (n+1) | none=>_)=_
   rw [keyTk,hb]
   exact hj
theorem low_tgkM (n:Nat) (l:List Tg):lowB n (.mp (tgkM l))=true:=by
 show (tgkM l).all _=true
 rw [List.all_eq_true]
 intro x hx
 simp only [tgkM,List.mem_map] at hx
 obtain ⟨f,_,rfl⟩:=hx
 rfl
theorem tgA_get (l:List Tg) (i:Nat) (h:i < l.length):(l.map tgA).getD i .any=.agg [.str l[i].scene,.int .i64 l[i].el.kind,.str l[i].el.name,.int .i64 l[i].n]:=by simp [List.getD,h,tgA]
theorem tagsOk_nil (x:Sr):TagsOk x []:=⟨fun t h=>(by cases h),fun t h=>(by cases h),fun t h=>(by cases h),.nil⟩
theorem tagsOk_snoc {x:Sr} {l:List Tg} {t:Tg} (h:TagsOk x l) (h1:∃ i,∃ (h:i < x.scenes.length),x.scenes[i].no=t.scene) (h2:elC t.el=0) (h3:0 ≤ t.n∧t.n ≤ 999) (h4:∀ g ∈ l,sameTg t g=false):TagsOk x (l++[t]):=by
 refine ⟨fun u hu=>?_,fun u hu=>?_,fun u hu=>?_,?_⟩
 ·rcases List.mem_append.1 hu with hu | hu
  ·exact h.at' u hu
  ·rw [List.mem_singleton.1 hu]; exact h1
 ·rcases List.mem_append.1 hu with hu | hu
  ·exact h.el u hu
  ·rw [List.mem_singleton.1 hu]; exact h2
 ·rcases List.mem_append.1 hu with hu | hu
  ·exact h.n u hu
  ·rw [List.mem_singleton.1 hu]; exact h3
 ·rw [List.pairwise_append]
  refine ⟨h.dist,List.pairwise_singleton _ _,fun a ha b hb e=>?_⟩
  rw [List.mem_singleton.1 hb] at e
  have:=h4 a ha
  rw [sameTg_iff.2 ⟨e.1.symm,e.2.symm⟩] at this
  cases this
theorem scM_no' {x:Sr} {k:List UInt8} (h:¬ ∃ i,∃ (h:i < x.scenes.length),x.scenes[i].no=k):mfind .string (.str k) (scMF 0 x.scenes) 0=some none :=
 scMF_none x.scenes 0 0 fun y hy e=>by
  obtain ⟨i,hi,rfl⟩:=List.getElem_of_mem hy
  exact h ⟨i,hi,e⟩
set_option maxHeartbeats 8000000 in
theorem checkTags_pch {S:Std} (hS:LibOk S) (x:Sr) (hx:StoryOk x) (ts:List Tg) (hl:ts.length ≤ 4) (he:∀ t ∈ ts,t.el.name.length < 1000000):PcH Tryz.prog S 50 [srA x,.fz 4 (ts.map tgA)] (fun r=>∃ n:Int,r=.int .i64 n∧(n=0 ↔ TagsOk x ts)):=by
 have h1:=tagScript_pch hS x hx
 have h4:=places_ct x hx
 have d1:decide ((ts.length:Int) > 2000)=false:=by simp; omega
 simp only [srA] at h1 h4 ⊢
 refine pch_intro (cth_intro Tryz.func50 rfl Tryz.ntmps50 hB50 (by simp) fun h ρ w hg=>goB (N:=65) Tryz.ntmps50 300 ?_)
 simp only [go_sem]
 refine pcallH1 hg (h1) rfl (N:=65) Tryz.ntmps50 rfl (goB (N:=65) Tryz.ntmps50 300 ?_)
 simp only [go_sem,d1,List.length_map]
 repeat refine And.intro (by first | omega | rfl | kernel_rfl | exact .inl rfl | exact .inl trivial | (simp; done) | (simp; omega)) ?_
 refine acall (h4 _) (N:=65) Tryz.ntmps50 rfl ?_
 rintro _ _ ⟨rfl,rfl⟩
 refine goB (N:=65) Tryz.ntmps50 300 ?_
 simp only [go_sem,List.length_map]
 repeat refine And.intro (by first | omega | rfl | kernel_rfl | exact .inl rfl | exact .inl trivial | (simp; done) | (simp; omega)) ?_
 refine aloop (ι:=Nat) (fun i=>ts.length - i) (fun i=>[(27,.int .i64 i),(26,.int .i64 ts.length),(25,.fz 4 (ts.map tgA)),(6,.mp 0),(7,.mp 1)]) (fun i=>[.mp (scMF 0 x.scenes),.mp (tgkM (ts.take i))]) (fun i=>i ≤ ts.length∧TagsOk x (ts.take i)) 0 ⟨Nat.zero_le _,tagsOk_nil x⟩ ?_ ?_
 ·refine Shift.weakS ?_ rfl
  simp only [wk,go_sem,List.length_map]
  try rfl
 rintro i ⟨g1,g2⟩ J hJ
 by_cases gi:i < ts.length
 rotate_left
 ·have di:decide ((i:Int) < (ts.length:Int))=false:=by simp; omega
  rw [List.take_of_length_le (by omega)] at g2
  clear hJ
  refine goB (N:=65) Tryz.ntmps50 300 ?_
  simp only [go_sem,di]
  exact aret [4] rfl ⟨⟨0,rfl,by simp [g2]⟩,rfl⟩
 have di:decide ((i:Int) < (ts.length:Int))=true:=by simp; omega
 have hget:=tgA_get ts i gi
 have h5:=elC_pch hS ts[i].el (he _ (List.getElem_mem gi))
 have hmem:ts[i] ∈ ts:=List.getElem_mem gi
 have m3:=isTk ts[i]
 have m2:tgkM (ts.take i)++[(tgkA ts[i],.bool true)]=tgkM (ts.take (i+1)):=by
  rw [List.take_add_one,List.getElem?_eq_getElem gi,tgkM,tgkM,List.map_append]
  rfl
 have htk:ts.take (i+1)=ts.take i++[ts[i]]:=by
  rw [List.take_add_one,List.getElem?_eq_getElem gi]
  rfl
 have hsn:=@tagsOk_snoc x (ts.take i) (ts[i]) g2
 rw [← htk] at hsn
 have hfin:=fun h=>hJ (i+1) ⟨gi,h⟩ (by omega)
 have hdup:(∃ g ∈ ts.take i,sameTg ts[i] g=true)→¬ TagsOk x ts:=by
  rintro ⟨g,hg,hs⟩ hok
  obtain ⟨j,hj,rfl⟩:=List.getElem_of_mem hg
  rw [List.length_take] at hj
  rw [List.getElem_take] at hs
  have:=List.pairwise_iff_getElem.1 hok.dist j i (by omega) gi (by omega)
  have h2:=sameTg_iff.1 hs
  exact this ⟨h2.1.symm,h2.2.symm⟩
 have hat:(¬ ∃ k,∃ (h:k < x.scenes.length),x.scenes[k].no=ts[i].scene)→¬ TagsOk x ts:=fun h hok=>h (hok.at' _ hmem)
 have hel:elC ts[i].el ≠ 0→¬ TagsOk x ts:=fun h hok=>h (hok.el _ hmem)
 have hcn:¬ (0 ≤ ts[i].n∧ts[i].n ≤ 999)→¬ TagsOk x ts:=fun h hok=>h (hok.n _ hmem)
 have hlow2:=low_tgkM 2 (ts.take (i+1))
 have hnone:=tgkM_none ts[i] (ts.take i) 0
 have hsome:=tgkM_some ts[i] (ts.take i) 0
 have hex:(∃ g ∈ ts.take i,sameTg ts[i] g=true)∨∀ g ∈ ts.take i,sameTg ts[i] g=false:=by
  by_cases h:∃ g ∈ ts.take i,sameTg ts[i] g=true
  ·exact .inl h
  ·refine .inr fun g hg=>?_
   cases hb:sameTg ts[i] g with
   | false=>rfl
   | true=>exact absurd ⟨g,hg,hb⟩ h
 clear hJ htk hmem
 generalize hP:(∃ g ∈ ts.take i,sameTg ts[i] g=true)=P at *
 generalize hQ:(∀ g ∈ ts.take i,sameTg ts[i] g=false)=Q at *
 generalize tgkM (ts.take (i+1))=M' at *
 generalize tgkM (ts.take i)=M at *
 generalize ts[i]=t at *
 simp only [tgkA] at m2 m3 hnone hsome
 simp only [elA] at h5
 by_cases ga:∃ k,∃ (h:k < x.scenes.length),x.scenes[k].no=t.scene
 rotate_left
 ·have m0:=scM_no' ga
  have hbad:=hat ga
  refine goB (N:=65) Tryz.ntmps50 300 ?_
  simp only [go_sem,di,hget,m0,List.length_map]
  repeat refine And.intro (by first | omega | rfl | kernel_rfl | (simp; done) | (simp; omega)) ?_
  exact aret [4] rfl ⟨⟨_,rfl,by simp [hbad]⟩,rfl⟩
 obtain ⟨q,hq,hqs⟩:=ga
 have m0:=scM_at hx hq hqs
 refine goB (N:=65) Tryz.ntmps50 300 ?_
 simp only [go_sem,di,hget,m0,List.length_map]
 repeat refine And.intro (by first | omega | rfl | kernel_rfl | (simp; done) | (simp; omega)) ?_
 by_cases ge:elC t.el=0
 rotate_left
 ·have de:(elC t.el != 0)=true:=by simpa using ge
  have hbad:=hel ge
  refine pcallH1 hg (h5) rfl (N:=65) Tryz.ntmps50 rfl (goB (N:=65) Tryz.ntmps50 300 ?_)
  simp only [go_sem,de]
  repeat refine And.intro (by first | omega | rfl | kernel_rfl | (simp; done) | (simp; omega)) ?_
  exact aret [4] rfl ⟨⟨_,rfl,by simp [hbad,ge]⟩,rfl⟩
 rw [ge] at h5
 by_cases gc:0 ≤ t.n∧t.n ≤ 999
 rotate_left
 ·have hbad:=hcn gc
  by_cases gc1:t.n < 0
  ·have dc:decide (t.n < 0)=true:=by simp; omega
   refine pcallH1 hg (h5) rfl (N:=65) Tryz.ntmps50 rfl (goB (N:=65) Tryz.ntmps50 300 ?_)
   simp only [go_sem,dc]
   repeat refine And.intro (by first | omega | rfl | kernel_rfl | (simp; done) | (simp; omega)) ?_
   exact aret [4] rfl ⟨⟨_,rfl,by simp [hbad]⟩,rfl⟩
  ·have dc:decide (t.n < 0)=false:=by simp; omega
   have dc2:decide (t.n > 999)=true:=by simp; omega
   refine pcallH1 hg (h5) rfl (N:=65) Tryz.ntmps50 rfl (goB (N:=65) Tryz.ntmps50 300 ?_)
   simp only [go_sem,dc,dc2]
   repeat refine And.intro (by first | omega | rfl | kernel_rfl | (simp; done) | (simp; omega)) ?_
   exact aret [4] rfl ⟨⟨_,rfl,by simp [hbad]⟩,rfl⟩
 have dc:decide (t.n < 0)=false:=by simp; omega
 have dc2:decide (t.n > 999)=false:=by simp; omega
 rcases hex with hp | hn
 ·obtain ⟨j,m1⟩:=hsome hp
  have hbad:=hdup hp
  refine pcallH1 hg (h5) rfl (N:=65) Tryz.ntmps50 rfl (goB (N:=65) Tryz.ntmps50 300 ?_)
  simp only [go_sem,dc,dc2,↓m3,↓m1]
  repeat refine And.intro (by first | omega | rfl | kernel_rfl | (simp; done) | (simp; omega)) ?_
  exact aret [4] rfl ⟨⟨_,rfl,by simp [hbad]⟩,rfl⟩
 ·have m1:=hnone hn
  have hfin:=hfin (hsn ⟨q,hq,hqs⟩ ge gc hn)
  refine pcallH1 hg (h5) rfl (N:=65) Tryz.ntmps50 rfl (goB (N:=65) Tryz.ntmps50 300 ?_)
  simp only [go_sem,dc,dc2,↓m3,↓m1,m2]
  repeat refine And.intro (by first | omega | rfl | kernel_rfl | (simp; done) | (simp; omega)) ?_
  rw [show (i:Int)+1=((i+1:Nat):Int) by omega]
  refine ainv hfin (Shift.low 2 (by simp) (by simp) ?_ ?_)
  ·simp only [List.take_succ_cons,List.take_zero,List.all_cons,List.all_nil,↓low_scM,↓hlow2,Bool.and_self]
  ·simp only [wkl,lowV,lowC,Av.get,go_sem]
end Go.Proofs.YtnfkjpihaficbaaGreatDoor
