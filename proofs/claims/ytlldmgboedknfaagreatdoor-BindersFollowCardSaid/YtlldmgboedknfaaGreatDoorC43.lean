/- The lines of pages fit: plain law. -/
import Derived.Test.YtlldmgboedknfaaGreatDoorC42
set_option maxRecDepth 100000
set_option linter.unusedSimpArgs false
set_option linter.unusedVariables false
namespace Go.Proofs.YtlldmgboedknfaaGreatDoor
open Go Go.Av Go.RowKit
def okE(l:List UInt8):Prop:=(∀ c∈l,plainC c=true)/\∀ h:l≠[],l.getLast h≠32
theorem okE_nil:okE []:=⟨by simp,fun h=>absurd rfl h⟩
theorem AvD{l:List UInt8}(h:okE l)(hl:l.length<=80):LineFit l:=by
 refine⟨hl,?_,List.all_eq_true.2 h.1⟩;rw[Lib.hasSuffix,Bool.eq_false_iff];intro he;rw[List.isSuffixOf_iff_suffix]at he;obtain⟨t,rfl⟩:=he;exact h.2 (by simp) (by simp)
theorem AsL{a b:List UInt8}(ha:∀ c∈a,plainC c=true)(hb:okE b)(hne:b≠[]):okE (a++b):=by
 refine⟨fun c hc=>?_,fun h=>?_⟩
 .rcases List.mem_append.1 hc with hc|hc
  .exact ha c hc
  .exact hb.1 c hc
 .rw [List.getLast_append_of_ne_nil _ hne]; exact hb.2 hne
theorem BfT:plainC 32=true:=by decide
def AqG(w:List UInt8):Prop:=∀ c∈w,plainC c=true/\c≠32
theorem AvE{w:List UInt8}(h:AqG w):okE w:=⟨fun c hc=>(h c hc).1,fun hne=>(h _ (List.getLast_mem hne)).2⟩
theorem AlZ:∀ t:List UInt8,(∀ c∈t,plainC c=true)->∀ w∈splitW t,AqG w
 | [],_,w,hw=>by simp[splitW]at hw; subst hw; intro c hc; simp at hc
 | c::r,h,w,hw=>by
  have ih:=AlZ r fun x hx=>h x (by simp[hx])
  rw[splitW]at hw
  split at hw
  .rcases List.mem_cons.1 hw with rfl|hw
   .intro c hc; simp at hc
   .exact ih w hw
  .rename_i hc
   have hc:c≠32:=by simpa using hc
   cases hq:splitW r with
   | nil =>
    rw[hq]at hw
    simp[AoM]at hw
    subst hw;intro x hx;rw[List.mem_singleton.1 hx]; exact⟨h c (by simp),hc⟩
   | cons v vs =>
    rw[hq]at hw ih;simp only[AoM]at hw
    rcases List.mem_cons.1 hw with rfl|hw
    .intro x hx
     rcases List.mem_cons.1 hx with rfl|hx
     .exact ⟨h x (by simp),hc⟩
     .exact ih v (by simp) x hx
    .exact ih w (by simp[hw])
theorem A8V{w:List UInt8}(h:AqG w)(n:Nat):AqG (w.take n):=fun c hc=>h c (List.mem_of_mem_take hc)
theorem A8W{w:List UInt8}(h:AqG w)(n:Nat):AqG (w.drop n):=fun c hc=>h c (List.mem_of_mem_drop hc)
theorem AsM{W:Nat}(hW:0<W):∀ (n:Nat)(w:List UInt8),w.length<=n->AqG w->(∀ l∈(chop W w).1,AqG l/\l.length<=W/\l≠[])/\AqG (chop W w).2/\(chop W w).2.length<=W
 | 0,w,h,hw=>by rw[AdO (by omega)]; exact⟨by simp,hw,by simp only; omega⟩
 | n+1,w,h,hw=>by
  by_cases hc:W<w.length
  .obtain ⟨h1,h2,h3⟩:=AsM hW n (w.drop W) (by simp; omega) (A8W hw W)
   rw[AeC hc hW];refine⟨fun l hl=>?_,h2,h3⟩
   rcases List.mem_cons.1 hl with rfl|hl
   .refine ⟨A8V hw W,by simp; omega,fun e=>?_⟩
    have:=congrArg List.length e;simp only[List.length_take,List.length_nil]at this;omega
   .exact h1 l hl
  .rw [AdO hc]; exact⟨by simp,hw,by simp only; omega⟩
structure WF(W:Nat)(st:List (List UInt8)×List UInt8):Prop where
 done:∀ l∈st.1,okE l/\l.length<=W/\l≠[]
 cur:okE st.2/\st.2.length<=W
theorem BfU{W:Nat}(hW:0<W){st:List (List UInt8)×List UInt8}(h:WF W st){w:List UInt8}(hw:AqG w):WF W (wrapS W st w):=by
 obtain⟨dn,cur⟩:=st;obtain⟨h1,h2⟩:=h;simp only at h1 h2;unfold wrapS
 by_cases h0:w=[]
 .subst h0
  simp only[beq_self_eq_true,if_true];exact⟨h1,h2⟩
 .have hwb:(w==[])=false:=by simpa using h0
  simp only[hwb,Bool.false_eq_true,if_false]
  split
  .rename_i hc
   simp only[Bool.and_eq_true,decide_eq_true_eq]at hc;refine⟨h1,?_,by simp only[List.length_append,List.length_cons]; omega⟩;have:cur++32::w=(cur++[32])++w:=by simp
   rw[this];refine AsL (fun c hc'=>?_) (AvE hw) h0
   rcases List.mem_append.1 hc' with hc'|hc'
   .exact h2.1.1 c hc'
   .rw [List.mem_singleton.1 hc']; exact BfT
  .obtain ⟨c1,c2,c3⟩:=AsM hW _ w (Nat.le_refl _) hw
   refine⟨fun l hl=>?_,AvE c2,c3⟩;simp only at hl
   rcases List.mem_append.1 hl with hl|hl
   .split at hl
    .rename_i hcur
     rcases List.mem_append.1 hl with hl|hl
     .exact h1 l hl
     .rw [List.mem_singleton.1 hl]; exact⟨h2.1,h2.2,by simpa using hcur⟩
    .exact h1 l hl
   .exact ⟨AvE (c1 l hl).1,(c1 l hl).2⟩
theorem AzL{W:Nat}(hW:0<W):∀ (ws:List (List UInt8))(st:List (List UInt8)×List UInt8),WF W st->(∀ w∈ws,AqG w)->WF W (ws.foldl (wrapS W) st)
 | [],st,h,_=>h
 | w::r,st,h,hw=>AzL hW r _ (BfU hW h (hw w (by simp))) fun v hv=>hw v (by simp[hv])
theorem AjV{W:Nat}(hW:0<W){t:List UInt8}(ht:∀ c∈t,plainC c=true):∀ l∈AbH W t,okE l/\l.length<=W/\l≠[]:=by
 have h:=AzL hW (splitW t) ([],[]) ⟨by simp,okE_nil,by simp⟩ (AlZ t ht);intro l hl;unfold AbH wrapF at hl
 split at hl
 .rename_i hc
  rcases List.mem_append.1 hl with hl|hl
  .exact h.done l hl
  .rw [List.mem_singleton.1 hl]; exact⟨h.cur.1,h.cur.2,by simpa using hc⟩
 .exact h.done l hl
theorem AzM(n:Nat):∀ c∈Lib.repeatL [32] n,plainC c=true:=by
 intro c hc;have:c=32:=by
  induction n with
  | zero=>simp[Lib.repeatL]at hc
  | succ n ih =>
   simp only[Lib.repeatL]at hc
   rcases List.mem_append.1 hc with hc|hc
   .exact List.mem_singleton.1 hc
   .exact ih hc
 rw[this]; exact BfT
theorem AsN{n:Nat}{l:List UInt8}(h:okE l)(hne:l≠[])(hl:n+l.length<=80):LineFit (indent n l):=AvD (AsL (AzM n) h hne) (by rw[AhL]; exact hl)
def fitB(l:List UInt8):Bool:=decide (l.length<=80)&&(!Lib.hasSuffix l [32]&&l.all plainC)
theorem AjW{l:List UInt8}(h:fitB l=true):LineFit l:=by
 simp only[fitB,Bool.and_eq_true,decide_eq_true_eq,Bool.not_eq_true']at h;exact⟨h.1,h.2.1,h.2.2⟩
theorem AzN:(NameL.all fun t=>fitB (indent 20 t)&&fitB (indent 20 t++A1W))=true:=by decide +kernel
theorem BfV:(TurnL.all fun t=>fitB (turnLine t))=true:=by decide +kernel
theorem BlF:LineFit AcD:=AjW (by decide +kernel)
theorem BqW:LineFit []:=AjW (by decide)
theorem A8X:(SetL.all fun t=>t.all plainC)=true:=by decide +kernel
theorem AzO:([0,1,2,3].all fun p=>(AlT p).all plainC)=true:=by decide +kernel
theorem A2Y:([0,1,2,3,4,5].all fun p=>(AxS p).all plainC)=true:=by decide +kernel
theorem BfW{c:UInt8}(h:okB c=true):plainC c=true:=by
 simp only[okB,plainC,Bool.not_or]at h |-;exact h
structure FitB(b:Bl):Prop where
 lines:∀ l∈b.lines,LineFit l
 name:b.kind=3->b.name∈NameL
theorem AlE{p:Pa}(h:DrawnP p):∀ c∈p.text,plainC c=true:=fun c hc=>by
 have hok:=h.ok;simp only[paraOk,Bool.and_eq_true]at hok;have hp:=hok.2.2.2.1;simp only[plainL,Bool.and_eq_true]at hp;exact BfW (List.all_eq_true.1 hp.1 c hc)
theorem BlG{p:Pa}(h:DrawnP p)(hj:joins p=false):FitB (newB p):=by
 have hk:=h.kind;simp only[joins,Bool.or_eq_false_iff,beq_eq_false_iff_ne]at hj;unfold newB
 by_cases k1:p.kind=1
 .simp only [k1,beq_self_eq_true,if_true]
  refine⟨fun l hl=>?_,by simp⟩;obtain⟨a1,a2,a3⟩:=AjV (by omega) (AlE h) l hl;exact AvD a1 (by omega)
 .have e1:(p.kind==1)=false:=by simpa using k1
  by_cases k5:p.kind=5
  .simp only [k5,show((5:Int)==1)=false from rfl,beq_self_eq_true,Bool.false_eq_true,if_false,if_true]
   refine⟨fun l hl=>?_,by simp⟩;rw[List.mem_singleton.1 hl];exact AjW (List.all_eq_true.1 BfV _ (h.turn k5))
  .have k2:p.kind=2:=by omega
   simp only[k2,show((2:Int)==1)=false from rfl,show((2:Int)==5)=false from rfl,Bool.false_eq_true,if_false];have hn:=h.name k2;have:=List.all_eq_true.1 AzN _ hn;simp only[Bool.and_eq_true]at this;refine⟨fun l hl=>?_,fun _=>hn⟩;rw[List.mem_singleton.1 hl];exact AjW this.1
theorem BfX{p:Pa}(h:DrawnP p){b:Bl}(hb:FitB b):FitB (moreB b p):=by
 unfold moreB addB
 split
 .refine ⟨fun l hl=>?_,hb.name⟩
  simp only at hl
  rcases List.mem_append.1 hl with hl|hl
  .exact hb.lines l hl
  .obtain ⟨l',hl',rfl⟩:=List.mem_map.1 hl
   have hpl:∀ c∈asideT p.text,plainC c=true:=fun c hc=>by
    simp only[asideT,List.mem_cons,List.mem_append,List.not_mem_nil,or_false]at hc
    rcases hc with rfl|hc|rfl
    .decide
    .exact AlE h c hc
    .decide
   obtain⟨a1,a2,a3⟩:=AjV (by omega) hpl l' hl';exact AsN a1 a3 (by omega)
 .refine ⟨fun l hl=>?_,hb.name⟩
  simp only at hl
  rcases List.mem_append.1 hl with hl|hl
  .exact hb.lines l hl
  .obtain ⟨l',hl',rfl⟩:=List.mem_map.1 hl
   obtain⟨a1,a2,a3⟩:=AjV (by omega) (AlE h) l' hl';exact AsN a1 a3 (by omega)
theorem AzP:∀ (ps:List Pa)(s:List Bl×Bl),(∀ p∈ps,DrawnP p)->(∀ b∈s.1++[s.2],FitB b)->∀ b∈(ps.foldl bstep s).1++[(ps.foldl bstep s).2],FitB b
 | [],s,_,h=>h
 | p::r,s,hp,h=>by
  have h1:=hp p (by simp);refine AzP r (bstep s p) (fun q hq=>hp q (by simp[hq])) fun b hb=>?_
  unfold bstep at hb
  cases hj:joins p with
  | true =>
   rw[hj,if_pos rfl]at hb
   rcases List.mem_append.1 hb with hb|hb
   .exact h b (List.mem_append.2 (.inl hb))
   .rw [List.mem_singleton.1 hb]
    exact BfX h1 (h _ (by simp))
  | false =>
   rw[hj,if_neg (by simp)]at hb
   rcases List.mem_append.1 hb with hb|hb
   .exact h b hb
   .rw [List.mem_singleton.1 hb]
    exact BlG h1 hj
theorem AmA{a:List UInt8}(h:numberL a=true):∀ c∈a,plainC c=true:=by
 intro c hc;have key:∀ n:Fin 256,(digI n.1=true\/capI n.1=true)->(!(decide (((n.1:Nat):Int)<32)||decide (((n.1:Nat):Int)>126)))=true:=by decide +kernel
 have hd:∀ c:UInt8,digB c=true\/capB c=true->plainC c=true:=fun c h=>key ⟨c.toNat,c.toNat_lt⟩ h
 rw[AdG a]at hc
 rcases List.mem_append.1 hc with hc|hc
 .exact hd c (.inl (AjR digB a c hc))
 .exact hd c (.inr (List.all_eq_true.1 (AbS h).2.2.2 c hc))
theorem A8Y{x:Sc}(h:SceneD x):∀ c∈headL x,plainC c=true:=by
 have h2:=List.all_eq_true.1 A8X x.set h.set;have h3:(AlT x.place).all plainC=true:=by
  have hp:=h.place;exact List.all_eq_true.1 AzO x.place (by simp; omega)
 have h4:(AxS x.time).all plainC=true:=by
  have hp:=h.time;exact List.all_eq_true.1 A2Y x.time (by simp; omega)
 have hl:∀ c∈headLine x,plainC c=true:=fun c hc=>by
  simp only[headLine,List.mem_append,List.mem_cons,List.not_mem_nil,or_false]at hc
  rcases hc with(((hc|rfl)|hc)|rfl|rfl|rfl)|hc
  .exact List.all_eq_true.1 h3 c hc
  .decide
  .exact List.all_eq_true.1 h2 c hc
  .decide
  .decide
  .decide
  .exact List.all_eq_true.1 h4 c hc
 intro c hc;unfold headL at hc
 split at hc
 .rename_i hne
  simp only[List.mem_append,List.mem_cons,List.not_mem_nil,or_false]at hc
  rcases hc with(hc|rfl)|hc
  .exact AmA (h.no.resolve_left (by simpa using hne)) c hc
  .decide
  .exact hl c hc
 .exact hl c hc
theorem BqX{xs:List Sc}(hx:∀ x∈xs,SceneD x){no:List UInt8}(hn:numberL no=true):∀ b∈entB xs no,FitB b:=by
 unfold entB
 cases h:atNo xs no with
 | none =>
  intro b hb;rw[List.mem_singleton.1 hb];refine⟨fun l hl=>?_,fun e=>absurd e (by simp[AiQ])⟩;have hpl:∀ c∈goneT no,plainC c=true:=fun c hc=>by
   simp only[goneT,List.mem_append]at hc
   rcases hc with hc|hc
   .exact AmA hn c hc
   .revert hc; revert c; decide +kernel
  obtain⟨a1,a2,a3⟩:=AjV (by omega) hpl l hl;exact AvD a1 (by omega)
 | some x =>
  have hd:=hx x (AhM h).1;refine AzP x.paras _ hd.all fun b hb=>?_
  simp only[List.nil_append,List.mem_singleton]at hb;subst hb;refine⟨fun l hl=>?_,fun e=>absurd e (by simp)⟩;obtain⟨a1,a2,a3⟩:=AjV (by omega) (A8Y hd) l hl;exact AvD a1 (by omega)
def fS(s:LS):Prop:=(∀ p∈s.pages,∀ l∈p,LineFit l)/\∀ l∈s.page,LineFit l
theorem A2Z{s:LS}(h:fS s):fS (flushS s):=by
 refine⟨fun p hp=>?_,by simp[flushS]⟩;simp only[flushS,List.mem_append,List.mem_singleton]at hp
 rcases hp with hp|rfl
 .exact h.1 p hp
 .exact h.2
theorem BlH{s:LS}(h:fS s){l:List Ln}(hl:∀ x∈l,LineFit x):fS (addS s l):=by
 refine⟨h.1,fun x hx=>?_⟩;simp only[addS,List.mem_append]at hx
 rcases hx with hx|hx
 .exact h.2 x hx
 .exact hl x hx
theorem BqY{b:Bl}(hb:FitB b){s:LS}(h:fS s):fS (breakS b s):=by
 unfold breakS;refine BlH (A2Z (BlH h fun x hx=>?_)) fun x hx=>?_
 .split at hx
  .rw [List.mem_singleton.1 hx]; exact BlF
  .simp at hx
 .split at hx
  .rename_i hk
   rw[List.mem_singleton.1 hx];have:=List.all_eq_true.1 AzN _ (hb.name (by simpa using hk));simp only[Bool.and_eq_true]at this;exact AjW this.2
  .simp at hx
theorem BfY{b:Bl}(hb:FitB b):∀ (f fr:Nat)(s:LS),fS s->fS (placeB b f fr s)
 | 0,_,s,h=>h
 | f+1,fr,s,h=>by
  have hp:∀ tz,∀ x∈partL' b fr tz,LineFit x:=fun tz x hx=>hb.lines x (List.mem_of_mem_take (List.mem_of_mem_drop hx))
  unfold placeB
  split
  .exact BlH h (hp _)
  .exact BfY hb f _ _ (BqY hb (BlH h (hp _)))
theorem BtT{bs:List Bl}{i:Nat}{b:Bl}{s:LS}(h:fS s):fS (openS bs i b s):=by
 have h1:fS (turnS bs i b s):=by unfold turnS; split; exact A2Z h; exact h
 have h2:fS (firstS i (turnS bs i b s)):=by unfold firstS; split; exact⟨h1.1,h1.2⟩; exact h1
 unfold openS gapS;refine⟨h2.1,fun x hx=>?_⟩;simp only[List.mem_append]at hx
 rcases hx with hx|hx
 .exact h2.2 x hx
 .rw [List.eq_of_mem_replicate hx]; exact BqW
theorem BtU{bs:List Bl}(hb:∀ b∈bs,FitB b):∀ i,i<=bs.length->fS (layTo bs i)
 | 0,_=>⟨by simp[layTo],by simp[layTo]⟩
 | i+1,hi=>by
  have hl:i<bs.length:=by omega
  simp only[layTo,List.getElem?_eq_getElem hl];exact BfY (hb _ (List.getElem_mem hl)) _ _ _ (BtT (BtU hb i (by omega)))
theorem BfZ{xs:List Sc}{nos:List (List UInt8)}(hm:MdOk xs nos):∀ p∈(layL (entsB xs nos)).pages,LinesOk p:=by
 have hb:∀ b∈entsB xs nos,FitB b:=fun b hb=>by
  obtain⟨n,hn,hb⟩:=List.mem_flatMap.1 hb;exact BqX hm.sc (hm.num n hn) b hb
 have h1:=BtU hb _ (Nat.le_refl _);have h2:fS (layL (entsB xs nos)):=by unfold layL; split; exact A2Z h1; exact h1
 intro p hp;obtain⟨h3,h4⟩:=(AhO hm).2 p hp;exact⟨h4,fun e=>by rw[e]at h3; simp at h3,h2.1 p hp⟩
theorem BlI{no:Int}{g fi:List (List UInt8)}{pg:List (List Ln)}{n:Nat}{f:Le'}(h:f∈mkLv no g fi pg n):f.draft=no:=by
 simp only[mkLv,List.mem_map]at h;obtain⟨k,_,rfl⟩:=h;rfl
theorem AqH{ys:List Sc}{E:List (List UInt8)}{lv:List Le'}{no:Int}:∀ (k:Nat)(s:List UInt8×List Le'),relTo ys E lv no k=some s->∀ f∈s.2,f.draft=no
 | 0,s,h=>by
  simp only[relTo,Option.some.injEq]at h;subst h; simp
 | k+1,s,h=>by
  simp only[relTo]at h
  cases hq:relTo ys E lv no k with
  | none=>rw[hq]at h; simp at h
  | some t =>
   rw[hq]at h;have ih:=AqH k t hq;simp only[stepR]at h
   split at h
   .simp only [Option.some.injEq]at h
    subst h; exact ih
   .split at h
    .simp at h
    .simp only [Option.some.injEq]at h
     subst h;intro f hf
     rcases List.mem_append.1 hf with hf|hf
     .exact ih f hf
     .exact BlI hf
theorem BgA{ys:List Sc}{E:List (List UInt8)}{lv:List Le'}{no:Int}(h:RelOk ys E lv){la:List UInt8}{l:List Le'}(hl:relTo ys E lv no ((runsL lv).length+1)=some (la,l)):∀ f∈l,LinesOk f.lines/\(f.first=[]\/numberL f.first=true):=by
 have h1:=BfQ _ _ hl;intro f hf;have:pr f∈l.map pr:=List.mem_map.2 ⟨f,hf,rfl⟩;rw[h1]at this;obtain⟨k,_,hk⟩:=List.mem_flatMap.1 this;have hm:=ApU h k;have h2:=List.of_mem_zip hk;refine⟨BfZ hm _ h2.1,?_⟩;obtain⟨i,_,hi⟩:=List.mem_map.1 h2.2
 rcases AfI ys (sgI E lv k) i with⟨m,h3,_,h4⟩|⟨_,h4⟩
 .right
  rw[<- hi,h4];exact hm.num _ (by simp[List.getD,h3])
 .left; rw[<- hi,h4]
theorem A8Z{lv:List Le'}{f:Le'}:(fixL lv f).draft=f.draft\/∃ x∈lv,(fixL lv f).draft=x.draft:=by
 unfold fixL
 split
 .rename_i x hx
  split
  .exact .inr ⟨x,List.mem_of_find?_eq_some hx,rfl⟩
  .exact .inl rfl
 .exact .inl rfl
theorem A9A{E:List (List UInt8)}{zs:List Sc}(hz:∀ y,zs.head? = some y->y.time≠5):∀ i,i<=zs.length->∀ y,(ysTo E zs i).head? = some y->y.time≠5:=by
 intro i
 induction i with
 | zero=>intro _ y hy; simp[ysTo]at hy
 | succ i ih =>
  intro hi y hy
  cases i with
  | zero =>
   simp only[ysTo,List.nil_append,List.head?_cons,Option.some.injEq]at hy;subst hy;have h0:0<zs.length:=by omega
   have:=hz (zs.getD 0 sc0) (by
    cases zs with
    | nil=>simp at h0
    | cons a r=>simp[List.getD])
   simpa using this
  | succ i =>
   have hne:ysTo E zs (i+1)≠[]:=by simp[ysTo]
   obtain⟨a,r,hq⟩:=List.exists_cons_of_ne_nil hne;have ih':=ih (by omega);rw[hq]at ih';rw[ysTo,hq,List.cons_append,List.head?_cons]at hy;exact ih' y (by rw[List.head?_cons]; exact hy)
structure NextOk(d:Dr)(x:Sr)(N:Dr):Prop where
 ok:DraftOk N
 inn:DrIn N
 no:N.no=d.no+1
 scenes:N.scenes.length=x.scenes.length
 title:N.title=x.title
theorem next_ok{d:Dr}{x:Sr}{E E':List (List UInt8)}{la:List UInt8}{l:List Le'}(hd:DrIn d)(ht:1<=x.title.length/\x.title.length<=60)(hp:plainL x.title=true)(hsc:∀ y∈x.scenes,SceneD y)(hfirst:∀ y,x.scenes.head? = some y->y.time≠5)(h66:x.scenes.length<=66)(h:NextG d x E E' la l):NextOk d x (nextD d x E l):=by
 obtain⟨ok,no,ent,run,ren,few,ent',rel,leaves,many⟩:=h;have hyl:=AhP E x.scenes x.scenes.length;have hys:=AsI (Nat.le_refl _) hsc ren;have hrise:=ren.rise;have hnum:=ren.num;have hf5:=A9A (E:=E) hfirst x.scenes.length (Nat.le_refl _);obtain⟨ps,hp1,hp2,hp3⟩:=BfR rel leaves;have hnm:=AzK rel _ _ (Nat.le_refl _) leaves;have hdr:=AqH _ _ leaves;have hpt:=BgA rel leaves;simp only at hnm hdr;have hgs:=AsJ (ys:=ysTo E x.scenes x.scenes.length) ent.sorted;have hdn:=ok.no;unfold nextD;generalize ysTo E x.scenes x.scenes.length=ys at *;have hsum:=A5C ys fun y hy=>(hys y hy).len
 have hnod:(hasNo ys).Nodup:=by
  unfold hasNo;exact(hrise.imp (S:=(·≠·)) fun hlt e=>by subst e; exact AaH _ hlt).sublist List.filter_sublist
 have hdraft:∀ f∈l,1<=(fixL d.leaves f).draft/\(fixL d.leaves f).draft<=d.no+1:=fun f hf=>by
  rcases A8Z (lv:=d.leaves) (f:=f)with e|⟨y,hy,e⟩
  .rw [e,hdr f hf]; omega
  .rw [e]
   have h1:=(ok.binder.all y hy).draft;have h2:=ok.made y hy;omega
 have hmapn:(l.map (fixL d.leaves)).map (·.name)=l.map (·.name):=by
  rw[List.map_map]; exact List.map_congr_left fun f _=>(AcY _ f).2.1
 have hmapp:(l.map (fixL d.leaves)).map pr=l.map pr:=by
  rw[List.map_map];exact List.map_congr_left fun f _=>by simp[pr,(AcY d.leaves f).1,(AcY d.leaves f).2.2]
 have hgn:∀ n∈goneN E ys,numberL n=true:=fun n hn=>ent.num n (hgs.2 n hn).1
 refine⟨⟨?_,?_,?_,?_,?_⟩,⟨?_,hys,hgn,?_,?_,?_⟩,rfl,hyl,rfl⟩
 .simp only; omega
 .exact ⟨fun y hy=>AgR (hnum y hy),hrise,hgs.1,fun y hy=>(hgs.2 y hy).2,by simp only; omega⟩
 .refine ⟨by simpa using many,fun f hf=>?_,fun i hi=>?_⟩
  .obtain ⟨f0,hf0,rfl⟩:=List.mem_map.1 hf
   have hl:=AcY d.leaves f0;have h1:=hdraft f0 hf0;have h2:=hpt f0 hf0;exact⟨by rw[hl.2.1]; exact hnm.2.1 f0 hf0,by omega,by rw[hl.2.2]; exact h2.2,by rw[hl.1]; exact h2.1⟩
  .have hr:=hnm.1.rise
   simp only[List.length_map]at hi;have:=List.pairwise_iff_getElem.1 hr i (i+1) (by simp; omega) (by simpa using hi) (by omega);simp only[List.getElem_map]at this |-;rw[(AcY d.leaves _).2.1,(AcY d.leaves _).2.1];exact this
 .intro f hf
  obtain⟨f0,hf0,rfl⟩:=List.mem_map.1 hf;exact(hdraft f0 hf0).2
 .intro E2 hE2
  have:E2=E':=BmS hE2 ⟨ent'.perm,ent'.sorted,ent'.num⟩;subst this;exact lv_ok ent'.sorted ent'.num hp1 (by simp only; rw[hmapp,hp2]) hp3
 .exact ⟨ht,hp,by simp only; omega,by simp only; omega,BfN ys [] true hys hnod (by simp) fun _=>hf5⟩
 .simp only; omega
 .simp only [List.length_map]; omega
 .intro f hf
  obtain⟨f0,hf0,rfl⟩:=List.mem_map.1 hf;have hl:=AcY d.leaves f0;have h2:=hpt f0 hf0;rw[hl.2.1,hl.2.2,hl.1];refine⟨by have:=AbY (hnm.2.1 f0 hf0); omega,?_,by have:=h2.1.few; omega,fun s hs=>by have:=(h2.1.all s hs).len; omega⟩
  rcases h2.2 with e|e
  .rw [e]; simp
  .have:=(AaG e).2.1; omega
end Go.Proofs.YtlldmgboedknfaaGreatDoor
set_option linter.unusedSectionVars false
namespace Go.Av
open Go Go.RowKit
variable [Tr]
def BlJ:Blk->Blk->Prop
 | .arr e l,.arr e' l'=>e=e'/\l.length=l'.length
 | .arr _ _,_=>False
 | _,.arr _ _=>False
 | _,_=>True
def Like(s s':List Blk):Prop:=∀ id,BlJ (s.getD id .dead) (s'.getD id .dead)
theorem AsO:∀ b,BlJ b b
 | .arr _ _=>⟨rfl,rfl⟩
 | .mp _=>trivial
 | .it ..=>trivial
 | .dead=>trivial
theorem A9B:∀ {a b},BlJ a b->BlJ b a:=by
 intro a b h
 cases a <;> cases b <;> first|exact⟨h.1.symm,h.2.symm⟩|exact trivial|exact h.elim
theorem Like.symm{s s':List Blk}(h:Like s s'):Like s' s:=fun id=>A9B (h id)
def AvF:Op->Bool
 | .indexAddr ..|.fieldAddr ..=>true
 | .binOp .add ..|.binOp .sub ..=>true
 | _=>false
def BlK:Op->Bool
 | .store ..=>true
 | _=>false
theorem AlF{op:Op}(h:AvF op=true):calm op=true:=by
 cases op <;> first|rfl|(exfalso; revert h; simp[AvF]; done)
theorem AhZ{p:Prop}{s s':List Blk}(h:Like s s')(x:AV)(k:Nat):xptrAddIf p s x k=xptrAddIf p s' x k:=by
 unfold xptrAddIf
 split <;> try rfl
 rename_i id n j off;have:=h id
 cases h1:s.getD id .dead <;> cases h2:s'.getD id .dead <;> rw[h1,h2]at this <;> first|rfl|exact this.elim|skip
 obtain⟨rfl,e⟩:=this;simp only[e]
theorem BlL{P:Program}{e:Env}{s s':List Blk}(h:Like s s'){op:Op}(ho:AvF op=true):xop false true P e s op=xop false true P e s' op:=by
 cases op <;> try(exfalso; revert ho; simp[AvF]; done)
 .rename_i b t x y t2
  cases b <;> try(exfalso; revert ho; simp[AvF]; done)
  all_goals
   simp only[xop,AqQ]
   split
   .rfl
   .unfold AsS
    split <;> rfl
 .rename_i t x f
  simp only[xop,AcU]
  split
  .exact AhZ h _ _
  .rfl
 .rename_i t x i
  simp only[xop];generalize ev e x=xv;generalize ev e i=iv;generalize P.underlying t=td;unfold AbZ
  split
  .exact AhZ h _ _
  .cases xv <;> try rfl
   rename_i id off len cap;have:=h id;simp only
   cases h1:s.getD id .dead <;> cases h2:s'.getD id .dead <;> rw[h1,h2]at this <;> first|rfl|exact this.elim|skip
   obtain⟨rfl,he⟩:=this;simp only[he]
  .rfl
theorem BlM{s:List Blk}{id e:Nat}{l l':List AV}(h:s.getD id .dead=.arr e l)(hl:l.length=l'.length):Like s (s.set id (.arr e l')):=by
 intro k
 by_cases hk:k=id
 .subst hk
  have:k<s.length:=by
   rcases Nat.lt_or_ge k s.length with h3|h3
   .exact h3
   .simp [List.getD,List.getElem?_eq_none h3]at h
  have e2:(s.set k (.arr e l')).getD k .dead=.arr e l':=by simp[List.getD,this]
  rw[h,e2];exact⟨rfl,hl⟩
 .have e2:(s.set id (.arr e l')).getD k .dead=s.getD k .dead:=by
   simp only[List.getD,List.getElem?_set_ne (Ne.symm hk)]
  rw[e2];exact AsO _
theorem AsP{c:Cx}{ops:Array Oper}{s s1:List Blk}{o:Oper}{cv v:AV}{e:Env}(ho:BlK o.op=true)(h:Does c ops s o cv e v s1):Like s s1:=by
 have hd:DoesOp c s o cv e v s1->Like s s1:=by
  intro h;unfold DoesOp at h
  cases hop:o.op <;> rw[hop]at ho h <;> try(exfalso; revert ho; simp[BlK]; done)
  rename_i t x u;simp only[xop]at h;generalize ev e x=xv at h;generalize cellsOf (ev e u)=vs at h;have hx:∀ q,ArC (tsize c.P t) s xv (ev e u)=q->(∃ p w s3,q=.sto p w s3/\Like s s3)\/q=.stuck:=by
   intro q hq;subst hq
   cases xv <;> try exact .inr rfl
   rename_i id n j off;simp only[ArC]
   cases hb:s.getD id .dead with
   | arr e' l=>exact .inl ⟨_,_,_,rfl,BlM hb (by simp)⟩
   | mp es=>exact .inr rfl
   | it a b c=>exact .inr rfl
   | dead=>exact .inr rfl
  rcases hx _ rfl with⟨p,w,s3,e1,e2⟩|e1
  .rw [e1]at h
   simp only at h;rw[h.2.2.2];exact e2
  .rw [e1]at h
   exact h.elim
 unfold Does at h
 split at h
 .exact hd h
 .split at h
  .rcases h with⟨_,h⟩|⟨_,_,rfl⟩
   .exact hd h
   .exact fun _=>AsO _
  .exact h.elim
theorem DoesOp.like{c:Cx}{s s' s2:List Blk}{o:Oper}{cv v:AV}{e:Env}(hc:AvF o.op=true)(hl:Like s s2)(h:DoesOp c s o cv e v s'):DoesOp c s2 o cv e v s2:=by
 have hcc:=AlF hc;unfold DoesOp at h |-;rw[BlL hl hc]at h
 split at h <;> rename_i hq
 .exact ⟨h.1,rfl⟩
 .exact ⟨h.1,h.2.1,rfl⟩
 .rw [hcc]at h; cases h.1
 .exact ⟨h.1,rfl⟩
 .exact ⟨h.1,h.2.1,h.2.2.1,rfl⟩
 .exact h.elim
theorem Does.like{c:Cx}{ops:Array Oper}{s s' s2:List Blk}{o:Oper}{cv v:AV}{e:Env}(hc:AvF o.op=true)(hl:Like s s2)(h:Does c ops s o cv e v s'):Does c ops s2 o cv e v s2:=by
 unfold Does at h |-
 split at h
 .exact h.like hc hl
 .split at h
  .rcases h with⟨h1,h⟩|⟨h1,h2,h⟩
   .exact .inl ⟨h1,h.like hc hl⟩
   .exact .inr ⟨h1,h2,rfl⟩
  .exact h.elim
def swp(x y:Oper):Bool:=AvF x.op&&BlK y.op||BlK x.op&&AvF y.op
def okSw(ops:List Oper)(j i:Nat):Bool:=match ops[j]?,ops[i]? with
 | some oj,some oi=>oj.apart ops.toArray oi&&(together oj oi||swp oj oi)
 | _,_=>false
section
variable {cx:Cx}{ops:Array Oper}{s:List Blk}{K:Env->List Blk->Prop}
theorem Chain.swapS{opl:List Oper}(hops:ops=opl.toArray)(hK:∀ e e' s,Eqv e e'->K e s->K e' s){i j:Nat}{r:List Nat}(hok:okSw opl j i=true){e:Env}{s:List Blk}(c:Chain cx ops K (j::i::r) e s) :
  Chain cx ops K (i::j::r) e s:=by
 unfold okSw at hok
 split at hok
 rotate_left
 .cases hok
 rename_i oj oi hj' hi';have hj:ops[j]? = some oj:=by rw[hops]; simpa using hj'
 have hi:ops[i]? = some oi:=by rw[hops]; simpa using hi'
 simp only[Bool.and_eq_true,Bool.or_eq_true]at hok;obtain⟨ha,hok⟩:=hok;rw[<- hops]at ha
 rcases hok with hok|hok
 .exact Chain.swap hK hj hi ha hok c
 obtain⟨a1,a2,a3⟩:=Oper.apart_spec ha;simp only[Chain,hj,hi]at c |-;obtain⟨cv,v,s1,h1,cu,u,s2,h2,h3⟩:=c;have h2':Does cx ops s1 oi cu e u s2:=h2.agree fun t ht=>by
  rw[get_put,if_neg]; intro h; exact a1 t h ht
 have h1':∀ {z z'},Does cx ops z oj cv e v z'->Does cx ops z oj cv (put e oi.dst u) v z':=fun hd=>hd.agree fun t ht=>by
  rw[get_put,if_neg]; intro h; exact a3 t h ht
 have h3':=Chain.congr hK (AtK a2) h3;simp only[swp,Bool.or_eq_true,Bool.and_eq_true]at hok
 rcases hok with⟨c1,c2⟩|⟨c1,c2⟩
 .have e1:=h1.calm (AlF c1)
  subst e1;exact⟨cu,u,_,h2',cv,v,_,h1' (h1.like c1 (AsP c2 h2')),h3'⟩
 .have e2:=h2.calm (AlF c2)
  subst e2;exact⟨cu,u,_,h2'.like c2 (AsP c1 h1).symm,cv,v,_,h1' h1,h3'⟩
theorem Chain.frontS{opl:List Oper}(hops:ops=opl.toArray)(hK:∀ e e' s,Eqv e e'->K e s->K e' s){i:Nat}{r:List Nat}:∀ {l:List Nat}{e:Env}{s:List Blk},(∀ j∈l,okSw opl j i=true) ->
  Chain cx ops K (l++i::r) e s->Chain cx ops K (i::(l++r)) e s
 | [],_,_,_,c=>c
 | j::l,e,s,h,c=>by
  refine Chain.swapS hops hK (h j (by simp)) ?_;simp only[List.cons_append,Chain]at c |-
  split at c
  .rename_i o ho
   obtain⟨cv,v,s',h1,h2⟩:=c;exact⟨cv,v,s',h1,Chain.frontS hops hK (fun k hk=>h k (by simp[hk])) h2⟩
  .exact c.elim
end
section
variable {c:Cx}{k:List It}{e:Env}{s:List Blk}
theorem A6H(cs:List AV){id:Nat}{ops:List Oper}(hm:c.P.follows .mixedOrders=true)(hok:AiH (okSw ops) ops=true){N:Nat}(hN:c.fn.ntmps=N)(hdst:ops.all (fun o=>dOk N o.dst)=true)(n:Nat)
  (h:dx c ops k n ops cs e s):AWp c (.code (.region id ops.toArray true)::k) e s:=by
 intro a w hsim;have hch:=AiI (m:=0) (by intro j; simp) h;rw[<- List.range_eq_range']at hch;refine wp_region_any hm ?_;have hsim':Sim c e s a { w with drawn:=w.drawn+1 }:=by
  obtain⟨hh,ρ,hmm,hl,he,hdf,hsz,hX⟩:=hsim;have sm:Same w { w with drawn:=w.drawn+1 }:=Same.drew w;exact⟨hh,ρ,hmm.same sm,hl.trans (Later.same sm),he,hdf,hsz,c.hx.later hmm (Later.same sm) hX⟩
 have hd:∀ o∈ops,dOk c.fn.ntmps o.dst=true:=fun o ho=>by rw[hN]; exact(List.all_eq_true.1 hdst) o ho
 refine AkM (okp:=okSw ops) (Chain c ops.toArray (fun e s=>AWp c k e s)) hok (fun e s x=>x) (fun l i r e s hj x=>Chain.frontS rfl AWp.K hj x)
  (fun i o r e s a w Kc ho x hs hK=>?_)
  ops.length (Array.replicate ops.length false) (List.range ops.length) e s a _ (by simp) ?_ (by simp) ?_ hch hsim'
 .have ho':ops.toArray[i]? = some o:=by simpa using ho
  simp only[Chain,ho']at x;obtain⟨cv,v,s',h1,h2⟩:=x;exact AnR hs (hd o (List.mem_of_getElem? ho)) h1 fun a w hs'=>hK _ _ a w h2 hs'
 .symm
  rw[List.filter_eq_self];intro i hi
  simp at hi
  simp[hi]
 .intro i hi j hj
  exfalso
  by_cases h1:i<ops.length
  .simp [h1]at hi
  .unfold AdN at hj
   have:ops[i]? = none:=by simp; omega
   simp[this]at hj
end
