/- Groups of paragraphs as lists: plain law. -/
import Derived.Test.YtlldmgboedknfaaGreatDoorB27
set_option maxRecDepth 100000
set_option maxHeartbeats 8000000
set_option linter.unusedSimpArgs false
set_option linter.unusedVariables false
namespace Go.Proofs.YtlldmgboedknfaaGreatDoor
open Go Go.Av Go.RowKit
def chunksFrom(cur:List Pa):List Pa->List (List Pa)
 | []=>[cur]
 | p::r=>if joins p then chunksFrom (cur++[p]) r else cur::chunksFrom [p] r
def ApS:List Pa->List (List Pa)
 | []=>[]
 | p::r=>chunksFrom [p] r
theorem BjA{ps:List Pa}{i:Nat}(h:i<ps.length):cutP ps (i,i+1)=[ps[i]]:=by
 rw[cutP,List.take_succ_eq_append_getElem h,List.drop_append_of_le_length (by simp; omega)]
 simp
theorem BdO{ps:List Pa}{a i:Nat}(ha:a<=i)(h:i<ps.length):cutP ps (a,i+1)=cutP ps (a,i)++[ps[i]]:=by
 simp only[cutP];rw[List.take_succ_eq_append_getElem h,List.drop_append_of_le_length (by simp; omega)]
theorem AmZ(ps:List Pa):∀ (rest:List Pa)(i a:Nat)(init:List (Nat×Nat)),a<=i->ps.drop i=rest ->
  (gfold (init++[(a,i)]) i rest).map (cutP ps)=init.map (cutP ps)++chunksFrom (cutP ps (a,i)) rest
 | [],i,a,init,ha,hr=>by simp[gfold,chunksFrom]
 | p::r,i,a,init,ha,hr=>by
  have hi:i<ps.length:=by
   rcases Nat.lt_or_ge i ps.length with h|h
   .exact h
   .rw [List.drop_of_length_le h]at hr; cases hr
  have hd:=List.drop_eq_getElem_cons hi;rw[hr]at hd;simp only[List.cons.injEq]at hd;obtain⟨hp,hr'⟩:=hd
  cases hj:joins p with
  | true =>
   have hg:gstep (init++[(a,i)]) i p=init++[(a,i+1)]:=by
    simp[gstep,hj,List.set_append,List.getD]
   rw[gfold,hg,AmZ ps r (i+1) a init (by omega) hr'.symm,chunksFrom,if_pos hj,BdO ha hi,hp]
  | false =>
   have hg:gstep (init++[(a,i)]) i p=(init++[(a,i)])++[(i,i+1)]:=by simp[gstep,hj]
   rw[gfold,hg,AmZ ps r (i+1) i (init++[(a,i)]) (by omega) hr'.symm,chunksFrom,hj,BjA hi,hp]
   simp
theorem A3Y(ps:List Pa)(h0:∀ p,ps.head? = some p->joins p=false):(groupsL ps).map (cutP ps)=ApS ps:=by
 cases ps with
 | nil=>rfl
 | cons p r =>
  have hj:=h0 p rfl;have hg:gstep [] 0 p=[]++[(0,1)]:=by simp[gstep,hj]
  rw[groupsL,gfold,hg,AmZ (p::r) r 1 0 [] (by omega) rfl];rfl
def hdP(c:List Pa):Pa:=c.head?.getD pNo
def ownC(name:List UInt8)(ws:List (List UInt8))(c:List Pa)(nxt:Option (List Pa)):Bool :=
 BdK (hdP c) name||(((hdP c).kind==2&&(match nxt with|some d=>BdK (hdP d) name|none=>false)) ||
  ((hdP c).kind != 2&&(decide (0<ws.length)&&decide (0<(BgA (AuX (hdP c).text) ws).length))))
def partC(name:List UInt8)(ws:List (List UInt8)):List (List Pa)->List Pa
 | []=>[]
 | c::r=>(if ownC name ws c r.head? then c else[])++partC name ws r
theorem BgD{ps:List Pa}{g:Nat×Nat}(h:g.1<g.2/\g.2<=ps.length):hdP (cutP ps g)=ps.getD g.1 pNo:=by
 have h1:g.1<ps.length:=by omega
 simp[hdP,cutP,List.head?_drop,List.getElem?_take,h.1,List.getD]
theorem BjB{ps:List Pa}{gs:List (Nat×Nat)}(hgo:∀ g∈gs,g.1<g.2/\g.2<=ps.length)(name:List UInt8)(ws:List (List UInt8)){k:Nat}(hk:k<gs.length) :
  ownB ps name ws gs k=ownC name ws (cutP ps gs[k]) ((gs.map (cutP ps)).drop (k+1)).head?:=by
 have h1:AsD ps gs k=hdP (cutP ps gs[k]):=by
  rw[BgD (hgo _ (List.getElem_mem hk)),AsD]
  simp[List.getD,hk]
 unfold ownB ownC;rw[h1,List.head?_drop,List.getElem?_map]
 by_cases hk1:k+1<gs.length
 .have h2:AsD ps gs (k+1)=hdP (cutP ps gs[k+1]):=by
   rw[BgD (hgo _ (List.getElem_mem hk1)),AsD]
   simp[List.getD,hk1]
  rw[h2,List.getElem?_eq_getElem hk1]
  simp[hk1]
 .rw [List.getElem?_eq_none (by omega)]
  simp[hk1]
theorem AvD{ps:List Pa}{gs:List (Nat×Nat)}(hgo:∀ g∈gs,g.1<g.2/\g.2<=ps.length)(name:List UInt8)(ws:List (List UInt8)):∀ (d k:Nat),k+d=gs.length ->
  partTo ps name ws gs gs.length=partTo ps name ws gs k++partC name ws ((gs.map (cutP ps)).drop k)
 | 0,k,h=>by
  have:k=gs.length:=by omega
  subst this;rw[List.drop_of_length_le (by simp)]
  simp[partC]
 | d+1,k,h=>by
  have hk:k<gs.length:=by omega
  have hk':k<(gs.map (cutP ps)).length:=by simpa using hk
  rw[AvD hgo name ws d (k+1) (by omega),List.drop_eq_getElem_cons hk',partC,partTo,BjB hgo name ws hk]
  simp[List.getD,hk]
theorem AyL(ps:List Pa)(name:List UInt8)(h0:∀ p,ps.head? = some p->joins p=false):partL ps name=partC name (AuX name) (ApS ps):=by
 rw[partL,AvD (A8J ps) name (AuX name) (groupsL ps).length 0 (by omega),A3Y ps h0]
 simp[partTo]
def keepC(name:List UInt8)(ws:List (List UInt8)):List (List Pa)->List (List Pa)
 | []=>[]
 | c::r=>if ownC name ws c r.head? then c::keepC name ws r else keepC name ws r
theorem ApT(name:List UInt8)(ws:List (List UInt8)):∀ cs,partC name ws cs=(keepC name ws cs).flatten
 | []=>rfl
 | c::r=>by
  rw[partC,keepC,ApT name ws r]
  split <;> simp
def WfC:List Pa->Prop
 | []=>False
 | p::r=>joins p=false/\∀ q∈r,joins q=true
theorem AeW:∀ (ps cur:List Pa),WfC cur->∀ c∈chunksFrom cur ps,WfC c
 | [],cur,h,c,hc=>by
  simp only[chunksFrom,List.mem_singleton]at hc;subst hc; exact h
 | p::r,cur,h,c,hc=>by
  rw[chunksFrom]at hc
  split at hc
  .rename_i hj
   refine AeW r (cur++[p]) ?_ c hc
   cases cur with
   | nil=>exact h.elim
   | cons a t=>exact⟨h.1,fun q hq=>by
     rcases List.mem_append.1 hq with hq|hq
     .exact h.2 q hq
     .rw [List.mem_singleton.1 hq]; exact hj⟩
  .rename_i hj
   rcases List.mem_cons.1 hc with rfl|hc
   .exact h
   .exact AeW r [p] ⟨by simpa using hj,by simp⟩ c hc
theorem A8N(ps:List Pa)(h0:∀ p,ps.head? = some p->joins p=false):∀ c∈ApS ps,WfC c:=by
 cases ps with
 | nil=>intro c hc; simp[ApS]at hc
 | cons p r=>exact AeW r [p] ⟨h0 p rfl,by simp⟩
theorem AsH(name:List UInt8)(ws:List (List UInt8)):∀ cs,∀ c∈keepC name ws cs,c∈cs
 | [],c,h=>by simp[keepC]at h
 | d::r,c,h=>by
  rw[keepC]at h
  split at h
  .rcases List.mem_cons.1 h with rfl|h
   .simp
   .exact List.mem_cons_of_mem _ (AsH name ws r c h)
  .exact List.mem_cons_of_mem _ (AsH name ws r c h)
theorem ApU:∀ (a b:List Pa)(l e:Int),runL l (a++b)=some e->∃ m,runL l a=some m/\runL m b=some e
 | [],b,l,e,h=>⟨l,rfl,h⟩
 | p::a,b,l,e,h=>by
  simp only[List.cons_append,runL]at h
  split at h
  .rename_i hc
   obtain⟨m,h1,h2⟩:=ApU a b _ e h;exact⟨m,by simp only[runL,if_pos hc]; exact h1,h2⟩
  .cases h
def Free(c:List Pa):Prop:=∀ l,l≠2->l≠3->∃ e,runL l c=some e/\e≠2/\e≠3
theorem AsI{q:Pa}(h:joins q=false):q.kind≠3/\q.kind≠4:=by
 simpa[joins]using h
theorem A8O{q:Pa}{m:Int}(h:joins q=false)(hf:followsL q.kind m=true):m≠2/\m≠3:=by
 obtain⟨h3,h4⟩:=AsI h
 simpa[followsL,h3,h4]using hf
theorem BjC{c:List Pa}(hw:WfC c){l m:Int}(h:runL l c=some m)(h2:m≠2)(h3:m≠3):Free c:=by
 cases c with
 | nil=>exact hw.elim
 | cons p t =>
  intro l' a b;simp only[runL]at h |-
  split at h
  .rename_i hc
   simp only[Bool.and_eq_true]at hc;obtain⟨k3,k4⟩:=AsI hw.1;rw[if_pos (by simp[hc.1,AfO k3 k4 a b])];exact⟨m,h,h2,h3⟩
  .cases h
theorem A1J:∀ (cs:List (List Pa))(l e:Int),(∀ c∈cs,WfC c)->runL l cs.flatten=some e->e≠2->e≠3->∀ c∈cs,Free c
 | [],_,_,_,_,_,_,c,hc=>by simp at hc
 | d::r,l,e,hw,h,h2,h3,c,hc=>by
  rw[List.flatten_cons]at h;obtain⟨m,h4,h5⟩:=ApU _ _ _ _ h;have hm:m≠2/\m≠3:=by
   cases r with
   | nil =>
    simp only[List.flatten_nil,runL,Option.some.injEq]at h5;subst h5; exact⟨h2,h3⟩
   | cons f r =>
    have hf:=hw f (by simp)
    cases f with
    | nil=>exact hf.elim
    | cons q t =>
     rw[List.flatten_cons,List.cons_append]at h5;simp only[runL]at h5
     split at h5
     .rename_i hc
      simp only[Bool.and_eq_true]at hc;exact A8O hf.1 hc.2
     .cases h5
  rcases List.mem_cons.1 hc with rfl|hc
  .exact BjC (hw c (by simp)) h4 hm.1 hm.2
  .exact A1J r m e (fun x hx=>hw x (by simp[hx])) h5 h2 h3 c hc
theorem A1K:∀ (cs:List (List Pa))(l:Int),(∀ c∈cs,Free c)->l≠2->l≠3->∃ e,runL l cs.flatten=some e/\e≠2/\e≠3
 | [],l,_,a,b=>⟨l,rfl,a,b⟩
 | c::r,l,h,a,b=>by
  obtain⟨m,h1,h2,h3⟩:=h c (by simp) l a b;obtain⟨e,h4,h5⟩:=A1K r m (fun x hx=>h x (by simp[hx])) h2 h3;exact⟨e,by rw[List.flatten_cons,AeU _ _ _ _ h1]; exact h4,h5⟩
theorem AdY:∀ (ps cur:List Pa),(chunksFrom cur ps).flatten=cur++ps
 | [],cur=>by simp[chunksFrom]
 | p::r,cur=>by
  rw[chunksFrom]
  split
  .rw [AdY r (cur++[p])]; simp
  .rw [List.flatten_cons,AdY r [p]]; simp
theorem A3Z(ps:List Pa):(ApS ps).flatten=ps:=by
 cases ps with
 | nil=>rfl
 | cons p r=>exact AdY r [p]
theorem part_run{ps:List Pa}{e:Int}(name:List UInt8)(h:runL 0 ps=some e)(h2:e≠2)(h3:e≠3):∃ e',runL 0 (partL ps name)=some e'/\e'≠2/\e'≠3:=by
 have h0:=BdN h;have hw:=A8N ps h0;have hf:=A1J (ApS ps) 0 e hw (by rw[A3Z]; exact h) h2 h3;rw[AyL ps name h0,ApT];exact A1K _ 0 (fun c hc=>hf c (AsH name _ _ c hc)) (by decide) (by decide)
end Go.Proofs.YtlldmgboedknfaaGreatDoor
namespace Go.Proofs.YtlldmgboedknfaaGreatDoor
open Go Go.Av Go.RowKit _root_.Go.Proofs.Tryz
def AfD(t:List UInt8):List UInt8:=40::(t++[41])
def newB(p:Pa):Bl :=
 if p.kind==1 then⟨1,AbE 60 p.text,[],[]⟩ else if p.kind==5 then⟨2,[turnLine p.text],[],[]⟩ else⟨3,[indent 20 p.text],[0],p.text⟩
def moreB(b:Bl)(p:Pa):Bl:=if p.kind==3 then addB b 1 15 (AbE 30 (AfD p.text)) else addB b 2 10 (AbE 35 p.text)
def bstep(s:List Bl×Bl)(p:Pa):List Bl×Bl:=if joins p then(s.1,moreB s.2 p) else(s.1++[s.2],newB p)
def blocksS(x:Sc):List Bl×Bl:=x.paras.foldl bstep ([],⟨0,AbE 60 (headL x),[],[]⟩)
def blocksL(x:Sc):List Bl:=(blocksS x).1++[(blocksS x).2]
theorem A8P(id e:Nat)(l:List AV)(bs:List Bl):(bs.map blA).map (frzC id e l)=bs.map blA:=by
 rw[List.map_map];apply List.map_congr_left;intro b _;rfl
theorem frz_scB(id e:Nat)(l:List AV)(x:Sc):frzC id e l (scA x)=scA x:=rfl
theorem AgL(l:List Bl):(flat (l.map blA)).all Av.frozen=true:=by
 induction l with
 | nil=>rfl
 | cons y l ih=>simpa[flat,cellsOf,blA,Av.frozen]using ih
def XA(b:Bl):AV:=if b.kind==3 then grpA 2 3 b.kind b.lines.length b.kinds.length b.name else blA b
def LA(b:Bl):List AV:=if b.kind==3 then b.lines.map .str else[]
def KA(b:Bl):List AV:=if b.kind==3 then b.kinds.map (.int .i64) else[]
def boT(x:Sc)(dn:List Bl)(cur:Bl):List Blk:=[.arr 5 [scA x],.arr 4 (dn.map blA++[XA cur]),.arr 1 (LA cur),.arr 1 (KA cur)]
theorem AsJ{n id es:Nat}{l:List AV}(hid:n<=id){v:AV}(h:lowC n v=true):frz1 id es l v=v:=by
 cases v with
 | sl i off len cap =>
  have hi:i<n:=of_decide_eq_true h;have:(i==id)=false:=by simp; omega
  simp[frz1,this]
 | ptr i off len cap =>
  have hi:i<n:=of_decide_eq_true h;have:(i==id)=false:=by simp; omega
  simp[frz1,this]
 | _=>rfl
theorem A1L{n id es:Nat}{l:List AV}(hid:n<=id){r:List AV}(h:r.all (lowC n)=true):r.map (frz1 id es l)=r:=by
 conv=>rhs; rw[<- List.map_id r]
 exact List.map_congr_left fun x hx=>AsJ hid (List.all_eq_true.1 h x hx)
theorem BdP{n id es:Nat}{l:List AV}(hid:n<=id){v:AV}(h:lowV n v=true):frz id es l v=v:=by
 cases v with
 | agg r=>simp only[frz,A1L hid (show r.all (lowC n)=true from h)]
 | fn f r=>simp only[frz,A1L hid (show r.all (lowC n)=true from h)]
 | sl i off len cap=>exact AsJ hid (show lowC n (.sl i off len cap)=true from h)
 | ptr i off len cap=>exact AsJ hid (show lowC n (.ptr i off len cap)=true from h)
 | _=>rfl
theorem AyM{n id es:Nat}{l:List AV}(hid:n<=id){e:Env}:∀ {e':Env},wkl n e e'->wkl n (frzE id es l e) e'
 | [],_=>trivial
 | (t,v)::r,h=>⟨⟨h.1.1,by rw[get_frzE,h.1.2,BdP hid h.1.1]⟩,AyM hid h.2⟩
theorem low_bls(n:Nat)(l:List Bl):lowB n (.arr 4 (l.map blA))=true:=AaX (AgL l)
theorem low_sc(n:Nat)(x:Sc):lowB n (.arr 5 [scA x])=true:=rfl
section
variable {c:Cx}{e e':Env}
theorem ApV{x:Sc}{dn:List Bl}{cur:Bl}(hc:c.sto.length<=2)(hw:wkl 2 e e'):Shift c e (boT x dn cur) e' [.arr 5 [scA x],.arr 4 ((dn++[cur]).map blA),.arr 1 [],.arr 1 []]:=by
 have fin:∀ {e0:Env} {s2:List Blk},wkl 2 e0 e'->Shift c e0 ([.arr 5 [scA x],.arr 4 ((dn++[cur]).map blA)]++s2) e' [.arr 5 [scA x],.arr 4 ((dn++[cur]).map blA),.arr 1 [],.arr 1 []]:=by
  intro e0 s2 hw0;refine Shift.trans (Shift.low 2 hc (by simp) ?_ hw0) (Shift.trans (Shift.reserve 1) (Shift.reserve 1));simp only[List.cons_append,List.nil_append,List.take_succ_cons,List.take_zero,List.all_cons,List.all_nil,low_bls,low_sc,Bool.and_self]
 unfold boT XA LA KA
 cases hk:cur.kind==3 with
 | false =>
  simp only[Bool.false_eq_true,if_false];have:dn.map blA++[blA cur]=(dn++[cur]).map blA:=by simp
  rw[this];exact fin (s2:=[.arr 1 [],.arr 1 []]) hw
 | true =>
  simp only[if_true];refine Shift.trans (Shift.frz 2 (es:=1) (l:=cur.lines.map .str) rfl (AdJ _)) ?_;simp only[List.set_cons_succ,List.set_cons_zero,List.map_cons,List.map_nil,frzB,frz_scB,List.map_append,A8P];simp only[grpA,frzC,frz,frz1,List.map_cons,List.map_nil,Nat.reduceBEq,beq_self_eq_true,cond_true,cond_false,Bool.false_and,Bool.true_and,List.length_map,Nat.zero_add,decide_true,Nat.le_refl,List.drop_zero,Bool.and_self];have h3:(List.map (frzC 2 1 (cur.lines.map .str)) (cur.kinds.map (.int .i64)))=cur.kinds.map (.int .i64):=by
   rw[List.map_map];exact List.map_congr_left fun _ _=>rfl
  have ht:List.take cur.lines.length (List.map AV.str cur.lines)=List.map AV.str cur.lines:=List.take_of_length_le (by simp);rw[h3,ht];refine Shift.trans (Shift.frz 3 (es:=1) (l:=cur.kinds.map (.int .i64)) rfl (AmX _)) ?_;simp only[List.set_cons_succ,List.set_cons_zero,List.map_cons,List.map_nil,frzB,frz_scB,List.map_append,A8P];simp only[grpA,frzC,frz,frz1,List.map_cons,List.map_nil,Nat.reduceBEq,beq_self_eq_true,cond_true,cond_false,Bool.false_and,Bool.true_and,List.length_map,Nat.zero_add,decide_true,Nat.le_refl,List.drop_zero,Bool.and_self];have ht2:List.take cur.kinds.length (List.map (AV.int .i64) cur.kinds)=List.map (AV.int .i64) cur.kinds:=List.take_of_length_le (by simp);rw[ht2];have:dn.map blA++[.agg [.int .i64 cur.kind,.fz 1 (cur.lines.map .str),.fz 1 (cur.kinds.map (.int .i64)),.str cur.name]]=(dn++[cur]).map blA:=by simp[blA]
  rw[this,show List.map blA dn++[blA cur]=(dn++[cur]).map blA by simp];exact fin (s2:=[.dead,.dead]) (AyM (n:=2) (id:=3) (by omega) (AyM (n:=2) (id:=2) (by omega) hw))
end
theorem A8Q(p:Pa):(newB p).kind=3 ↔ ¬ (p.kind=1\/p.kind=5):=by
 unfold newB
 by_cases h1:p.kind=1
 .simp [h1]
 .by_cases h5:p.kind=5
  .simp [h5]
  .simp [h1,h5]
theorem AiJ{x:Sc}{dn:List Bl}{b:Bl}(h:(b.kind==3)=false):boT x dn b=[.arr 5 [scA x],.arr 4 (dn.map blA++[blA b]),.arr 1 [],.arr 1 []]:=by
 simp[boT,XA,LA,KA,h]
theorem AiK{x:Sc}{dn:List Bl}{b:Bl}(h:(b.kind==3)=true):boT x dn b=[.arr 5 [scA x],.arr 4 (dn.map blA++[grpA 2 3 b.kind b.lines.length b.kinds.length b.name]),.arr 1 (b.lines.map .str),.arr 1 (b.kinds.map (.int .i64))]:=by
 simp[boT,XA,LA,KA,h]
theorem AnA(x:Sc)(dn:List Bl)(b:Bl):(boT x dn b).all (lowB 4)=true:=by
 have h1:=low_strs 4 b.lines;have h2:lowB 4 (.arr 1 (b.kinds.map (.int .i64)))=true:=AaX (AmX _);have h3:=AaX (n:=4) (AgL dn)
 cases h:b.kind==3 with
 | false =>
  rw[AiJ h];have:=low_bls 4 (dn++[b]);rw[List.map_append]at this;simp only[List.all_cons,List.all_nil,low_sc,this,Bool.and_true,Bool.true_and];have e:[blA b]=List.map blA [b]:=rfl;rw[e,this]; rfl
 | true =>
  rw[AiK h];simp only[List.all_cons,List.all_nil,low_sc,h1,h2,Bool.and_true,Bool.true_and];simp only[lowB,flat_append,List.all_append,h3,flat,grpA,cellsOf,List.append_nil,List.all_cons,List.all_nil,lowC,Av.frozen,decide_true,Bool.and_self,Bool.true_and,Nat.reduceLT]
theorem A4A(b:Bl)(p:Pa):(moreB b p).kind=b.kind:=by
 unfold moreB; split <;> rfl
theorem AvE(b:Bl)(p:Pa):(moreB b p).lines.length<=b.lines.length+p.text.length+4/\(moreB b p).kinds.length<=b.kinds.length+p.text.length+4:=by
 unfold moreB addB
 split
 .have:=(AbY 30 (AfD p.text)).1
  simp[AfD]at this |-; omega
 .have:=(AbY 35 p.text).1
  simp at this |-; omega
theorem A1M(p:Pa):(newB p).lines.length<=p.text.length+4/\(newB p).kinds.length<=1:=by
 have:=(AbY 60 p.text).1;unfold newB
 split
 .simp; omega
 .split <;> simp
theorem ApW{St:Std}(hS:LibOk St)(x:Sc)(hx:SceneOk x)(hp:1<=x.place/\x.place<=3)(ht:1<=x.time/\x.time<=5)(hno:x.no.length<1000000)(hset:x.set.length<10000)(hps:x.paras.length<=4000):PcH prog St 57 [scA x] (· = .fz 4 ((blocksL x).map blA)):=by
 have hh:=AoS x hp ht (by omega) hset;have hhl:(headL x).length<2000000:=by
  have l1:=AjQ x.place;have l2:=AmY x.time;unfold headL AdS
  split <;> simp <;> omega
 have hnh:=AgY hS (headL x) (by omega);obtain⟨e,hr,he2,he3⟩:=hx.run;simp only[scA]at hh |-;refine zqIN func57 rfl fun h ρ w hg=>?_
 simp only[go_sem];refine zpN (hh) ?_;simp only[go_sem];refine zqN hg (hnh) ?_;simp only[blA];simp only[go_sem,List.length_map];refine AWp.shift (Shift.trans (Shift.reserve 1) (Shift.reserve 1)) ?_;refine AaL (ι:=Nat×List Bl×Bl×Int) (fun y=>x.paras.length-y.1)
  (fun y=>[(13,.int .i64 y.1),(12,.int .i64 x.paras.length),(11,.fz 2 (x.paras.map paA)),(3,.sl 1 0 (y.2.1.length+1) (y.2.1.length+1))])
  (fun y=>boT x y.2.1 y.2.2.1) (fun y=>y.1<=x.paras.length/\runL y.2.2.2 (x.paras.drop y.1)=some e/\((y.2.2.2=2\/y.2.2.2=3\/y.2.2.2=4)->y.2.2.1.kind=3)/\(x.paras.drop y.1).foldl bstep (y.2.1,y.2.2.1)=blocksS x /\
   y.2.1.length<=y.1/\y.2.2.1.lines.length<=3000000+2100*y.1/\y.2.2.1.kinds.length<=3000000+2100*y.1) (0,[],⟨0,AbE 60 (headL x),[],[]⟩,0) ⟨by simp,hr,by simp,rfl,by simp,?_,by simp⟩ ?_ ?_
 .have:=(AbY 60 (headL x)).1
  simp only; omega
 .refine Shift.weakS ?_ ?_
  .simp only [go_sem]
  .rw [AiJ (by rfl)]; rfl
 .rintro ⟨j,dn,cur,l⟩ ⟨g1,g2,g3,g4,g5,g6,g7⟩ J hJ
  simp only at g1 g2 g3 g4 g5 g6 g7 hJ |-
  by_cases gj:j<x.paras.length
  .have dj:decide ((j:Int)<(x.paras.length:Int))=true:=by simp; omega
   have hpA:List.getD (List.map paA x.paras) j .any=.agg [.int .i64 x.paras[j].kind,.str x.paras[j].text]:=by simp[List.getD,gj,paA]
   rw[List.drop_eq_getElem_cons gj]at g2 g4;simp only[runL]at g2;rw[List.foldl_cons]at g4
   split at g2
   rotate_left
   .cases g2
   rename_i hok;simp only[Bool.and_eq_true]at hok;generalize x.paras[j]=p at *;have hpl:=AsG hok.1
   cases hj:joins p with
   | true =>
    have hst:bstep (dn,cur) p=(dn,moreB cur p):=by simp[bstep,hj]
    rw[hst]at g4;have hml:=AvE cur p;have hmk:=A4A cur p;have hk3:(cur.kind==3)=true:=by
     have hf:=hok.2;simp only[joins,Bool.or_eq_true,beq_iff_eq]at hj;simp only[followsL]at hf;have:cur.kind=3:=by
      rcases hj with h|h <;> simp[h]at hf <;> exact g3 (by omega)
     simpa using this
    have G:Grp (fun g L K=>[.arr 5 [scA x],.arr 4 (dn.map blA++[g]),.arr 1 L,.arr 1 K,.arr 2 [.agg [.int .i64 p.kind,.str p.text]]]) (fun g=>dn.map blA++[g]) 1 2 3 (dn.length+1) dn.length :=
     ⟨by omega,fun _ _ _=>rfl,fun _=>by simp,fun _=>by simp[List.getD],fun _ _=>by simp,fun _ _ _ _=>rfl,fun _ _ _=>rfl,fun _ _ _ _=>rfl,fun _ _ _=>rfl,fun _ _ _ _=>rfl⟩
    have htn:(((dn.length+1:Nat):Int)-1).toNat=dn.length:=by omega
    have fin:boT x dn (moreB cur p)=[.arr 5 [scA x],.arr 4 (dn.map blA++[grpA 2 3 (moreB cur p).kind (moreB cur p).lines.length (moreB cur p).kinds.length (moreB cur p).name]),.arr 1 ((moreB cur p).lines.map .str),.arr 1 ((moreB cur p).kinds.map (.int .i64))]:=AiK (by rw[hmk]; exact hk3);have hJ':=hJ (j+1,dn,moreB cur p,p.kind) ⟨by simp only; omega,g2,by simp only; intro _; rw[hmk]; simpa using hk3,g4,by simp only; omega,by simp only; omega,by simp only; omega⟩ (by simp only; omega);simp only at hJ';rw[AiK hk3]
    by_cases k3:p.kind=3
    .have q1:(p.kind==1)=false:=by simp[k3]
     have q5:(p.kind==5)=false:=by simp[k3]
     have q2:(p.kind==2)=false:=by simp[k3]
     have q3:(p.kind==3)=true:=by simp[k3]
     have hadd:=AvC hS G cur p.text (by omega) (by omega) (by omega);have hmb:addB cur 1 15 (AbE 30 (40::(p.text++[41])))=moreB cur p:=by simp[moreB,k3,AfD]
     rw[hmb]at hadd;simp only[grpS]at hadd;refine zgF ?_;simp only[go_sem,dj,hpA,q1,q5,q2,q3,List.length_map]
     repeat refine aqa ?_
     refine AvA [] rfl mixed (by decide) rfl rfl rfl 100 ?_;simp only[go_sem,iniO,KLast,List.length_append,List.length_map,htn]
     repeat refine aqa ?_
     refine zgF ?_;simp only[go_sem];refine zaH hg (hadd) ?_;rintro _ _ ⟨rfl,rfl⟩;refine zgF ?_;simp only[go_sem]
     repeat refine aqa ?_
     rw[ic j];refine ainv hJ' (Shift.trans (Shift.low 4 (e':=[(13,.int .i64 ((j+1:Nat):Int)),(12,.int .i64 x.paras.length),(11,.fz 2 (x.paras.map paA)),(3,.sl 1 0 (dn.length+1) (dn.length+1))]) (by simp) (by simp) ?_ ?_) (Shift.weakS ?_ ?_))
     .have:=AnA x dn (moreB cur p)
      rw[fin]at this;exact this
     .simp only [go_sem]
     .simp only [go_sem]
     .rw [fin]; rfl
    .have k4:p.kind=4:=by
      simp only[joins,Bool.or_eq_true,beq_iff_eq]at hj;omega
     have q1:(p.kind==1)=false:=by simp[k4]
     have q5:(p.kind==5)=false:=by simp[k4]
     have q2:(p.kind==2)=false:=by simp[k4]
     have q3:(p.kind==3)=false:=by simp[k4]
     have q4:(p.kind==4)=true:=by simp[k4]
     have hadd:=AsF hS G cur p.text (by omega) (by omega) (by omega);have hmb:addB cur 2 10 (AbE 35 p.text)=moreB cur p:=by simp[moreB,k4]
     rw[hmb]at hadd;simp only[grpS]at hadd;refine zgF ?_;simp only[go_sem,dj,hpA,q1,q5,q2,q3,q4,List.length_map]
     repeat refine aqa ?_
     refine AvA [] rfl mixed (by decide) rfl rfl rfl 100 ?_;simp only[go_sem,iniO,KLast,List.length_append,List.length_map,htn]
     repeat refine aqa ?_
     refine zgF ?_;simp only[go_sem];refine zaH hg (hadd) ?_;rintro _ _ ⟨rfl,rfl⟩;refine zgF ?_;simp only[go_sem]
     repeat refine aqa ?_
     rw[ic j];refine ainv hJ' (Shift.trans (Shift.low 4 (e':=[(13,.int .i64 ((j+1:Nat):Int)),(12,.int .i64 x.paras.length),(11,.fz 2 (x.paras.map paA)),(3,.sl 1 0 (dn.length+1) (dn.length+1))]) (by simp) (by simp) ?_ ?_) (Shift.weakS ?_ ?_))
     .have:=AnA x dn (moreB cur p)
      rw[fin]at this;exact this
     .simp only [go_sem]
     .simp only [go_sem]
     .rw [fin]; rfl
   | false =>
    have hst:bstep (dn,cur) p=(dn++[cur],newB p):=by simp[bstep,hj]
    rw[hst]at g4;have hnl:=A1M p;have hJ':=hJ (j+1,dn++[cur],newB p,p.kind) ⟨by simp only; omega,g2,by
     simp only;intro h;rw[A8Q];have hk:=AsI hj;omega,g4,by simp; omega,by simp only; omega,by simp only; omega⟩ (by simp only; omega)
    have hlen1:(dn++[cur]).length+1=dn.length+1+1:=by simp
    simp only[hlen1]at hJ';have hk15:1<=p.kind/\p.kind<=5:=by
     have:=hok.1;simp only[paraOk,Bool.and_eq_true,decide_eq_true_eq]at this;exact⟨this.1,this.2.1⟩
    have hkj:=AsI hj;refine AWp.shift (ApV (e':=[(13,.int .i64 (j:Int)),(12,.int .i64 x.paras.length),(11,.fz 2 (x.paras.map paA)),(3,.sl 1 0 (dn.length+1) (dn.length+1))]) (by simp) (by simp only[go_sem])) ?_;have hlm:(List.map blA (dn++[cur])).length=dn.length+1:=by simp
    by_cases k1:p.kind=1
    .have q1:(p.kind==1)=true:=by simp[k1]
     have hna:=AsE hS p.text (by omega);have hnb:newB p=⟨1,AbE 60 p.text,[],[]⟩:=by simp[newB,k1]
     have fin:=AiJ (x:=x) (dn:=dn++[cur]) (b:=newB p) (by rw[hnb]; rfl);refine zgF ?_;simp only[go_sem,dj,hpA,q1,hlm,List.length_map]
     repeat refine aqa ?_
     refine zqF hg (hna) ?_;simp only[blA];simp only[go_sem,hlm,List.length_map]
     repeat refine aqa ?_
     rw[hnb]at fin;rw[hnb]at hJ';rw[ic j];refine ainv hJ' (Shift.trans (Shift.low 4 (e':=[(13,.int .i64 ((j+1:Nat):Int)),(12,.int .i64 x.paras.length),(11,.fz 2 (x.paras.map paA)),(3,.sl 1 0 (dn.length+1+1) (dn.length+1+1))]) (by simp) (by simp) ?_ ?_) (Shift.weakS ?_ ?_))
     .have:=AnA x (dn++[cur]) ⟨1,AbE 60 p.text,[],[]⟩
      rw[fin]at this;exact this
     .simp only [go_sem]
     .simp only [go_sem]
     .rw [fin]; rfl
    .by_cases k5:p.kind=5
     .have q1:(p.kind==1)=false:=by simp[k5]
      have q5:(p.kind==5)=true:=by simp[k5]
      have hna:=A3W p.text (by omega);have hnb:newB p=⟨2,[turnLine p.text],[],[]⟩:=by simp[newB,k5]
      have fin:=AiJ (x:=x) (dn:=dn++[cur]) (b:=newB p) (by rw[hnb]; rfl);refine zgF ?_;simp only[go_sem,dj,hpA,q1,q5,hlm,List.length_map]
      repeat refine aqa ?_
      refine zpF (hna) ?_;simp only[blA];simp only[go_sem,hlm,List.length_map]
      repeat refine aqa ?_
      rw[hnb]at fin;rw[hnb]at hJ';rw[ic j];refine ainv hJ' (Shift.trans (Shift.low 4 (e':=[(13,.int .i64 ((j+1:Nat):Int)),(12,.int .i64 x.paras.length),(11,.fz 2 (x.paras.map paA)),(3,.sl 1 0 (dn.length+1+1) (dn.length+1+1))]) (by simp) (by simp) ?_ ?_) (Shift.weakS ?_ ?_))
      .have:=AnA x (dn++[cur]) ⟨2,[turnLine p.text],[],[]⟩
       rw[fin]at this;exact this
      .simp only [go_sem]
      .simp only [go_sem]
      .rw [fin]; rfl
     .have k2:p.kind=2:=by omega
      have q1:(p.kind==1)=false:=by simp[k2]
      have q5:(p.kind==5)=false:=by simp[k2]
      have q2:(p.kind==2)=true:=by simp[k2]
      have hnb:newB p=⟨3,[indent 20 p.text],[0],p.text⟩:=by simp[newB,k2]
      have fin:=AiK (x:=x) (dn:=dn++[cur]) (b:=newB p) (by rw[hnb]; rfl);refine zgF ?_;simp only[go_sem,dj,hpA,q1,q5,q2,hlm,List.length_map]
      repeat refine aqa ?_
      refine za (AyJ _ _ _ p.text (by omega)) ?_;rintro _ _ ⟨rfl,b5,b6,rfl⟩;simp only[grpA];refine zgN ?_;simp only[go_sem,hlm,List.length_map]
      repeat refine aqa ?_
      rw[hnb]at fin;rw[hnb]at hJ';simp only[List.map_cons,List.map_nil,List.length_cons,List.length_nil,Nat.zero_add,grpA]at fin;rw[ic j];refine ainv hJ' (Shift.trans (Shift.low 4 (e':=[(13,.int .i64 ((j+1:Nat):Int)),(12,.int .i64 x.paras.length),(11,.fz 2 (x.paras.map paA)),(3,.sl 1 0 (dn.length+1+1) (dn.length+1+1))]) (by simp) (by simp) ?_ ?_) (Shift.weakS ?_ ?_))
      .have:=AnA x (dn++[cur]) ⟨3,[indent 20 p.text],[0],p.text⟩
       rw[fin]at this;exact this
      .simp only [go_sem]
      .simp only [go_sem]
      .rw [fin]; rfl
  .have dj:decide ((j:Int)<(x.paras.length:Int))=false:=by simp; omega
   have hj:j=x.paras.length:=by omega
   subst hj;rw[List.drop_length]at g4;simp only[List.foldl_nil]at g4;have hbl:blocksL x=dn++[cur]:=by simp[blocksL,<- g4]
   refine AWp.shift (ApV (e':=[(13,.int .i64 (x.paras.length:Int)),(12,.int .i64 x.paras.length),(11,.fz 2 (x.paras.map paA)),(3,.sl 1 0 (dn.length+1) (dn.length+1))]) (by simp) (by simp only[go_sem])) ?_;refine zgF ?_;simp only[go_sem,dj];refine ARet.shift (Shift.freeze 2 (id:=1) rfl rfl (by simp) (Nat.le_refl _) (AgL _)) (aret [2] rfl ⟨?_,rfl⟩)
   simp[resV,Av.get,Av.put,List.take_of_length_le,hbl]
end Go.Proofs.YtlldmgboedknfaaGreatDoor
namespace Go.Proofs.YtlldmgboedknfaaGreatDoor
open Go Go.Av Go.RowKit _root_.Go.Proofs.Tryz
theorem AnB:∀ (ps:List Pa)(s:List Bl×Bl)(B:Nat),(∀ b∈s.1++[s.2],b.lines.length<=B+3000)->(∀ p∈ps,p.text.length<=2000) ->
  (∀ b∈(ps.foldl bstep s).1++[(ps.foldl bstep s).2],b.lines.length<=B+3000+2100*ps.length)/\((ps.foldl bstep s).1).length<=s.1.length+ps.length
 | [],s,B,h,_=>by simpa using h
 | p::r,s,B,h,hp=>by
  have hpl:=hp p (by simp);have hstep:(∀ b∈(bstep s p).1++[(bstep s p).2],b.lines.length<=(B+2100)+3000)/\(bstep s p).1.length<=s.1.length+1:=by
   unfold bstep
   split
   .refine ⟨fun b hb=>?_,by simp⟩
    rcases List.mem_append.1 hb with hb|hb
    .have:=h b (by simp at hb |-; exact .inl hb); omega
    .rw [List.mem_singleton.1 hb]
     have:=(AvE s.2 p).1;have:=h s.2 (by simp);simp only; omega
   .refine ⟨fun b hb=>?_,by simp⟩
    rcases List.mem_append.1 hb with hb|hb
    .have:=h b hb; omega
    .rw [List.mem_singleton.1 hb]
     have:=(A1M p).1;simp only; omega
  obtain⟨h1,h2⟩:=AnB r (bstep s p) (B+2100) hstep.1 (fun q hq=>hp q (by simp[hq]));rw[List.foldl_cons];refine⟨fun b hb=>?_,?_⟩
  .have:=h1 b hb
   simp only[List.length_cons]; omega
  .have:=hstep.2
   simp only[List.length_cons]; omega
theorem AvF{x:Sc}(hp:∀ p∈x.paras,p.text.length<=2000)(hh:(headL x).length<2000000)(hl:x.paras.length<=4000):(∀ b∈blocksL x,b.lines.length<=11000000)/\(blocksL x).length<=4001:=by
 have:=AnB x.paras ([],⟨0,AbE 60 (headL x),[],[]⟩) 2000000 (by
  intro b hb
  simp at hb
  subst hb;have:=(AbY 60 (headL x)).1;simp only; omega) hp
 refine⟨fun b hb=>?_,?_⟩
 .have:=this.1 b hb; omega
 .have:=this.2
  simp only[blocksL,blocksS,List.length_append,List.length_cons,List.length_nil]at this |-;omega
def gapN(b:Bl):Nat:=if b.kind==0 then 2 else 1
def blockLines(b:Bl):List (List UInt8):=List.replicate (gapN b) []++b.lines
def linesL(x:Sc):List (List UInt8):=((blocksL x).map blockLines).flatten
def linesTo(bs:List Bl)(i:Nat):List (List UInt8):=((bs.take i).map blockLines).flatten
theorem AkH{bs:List Bl}{i:Nat}(h:i<bs.length):linesTo bs (i+1)=linesTo bs i++List.replicate (gapN bs[i]) []++bs[i].lines:=by
 simp only[linesTo,List.take_succ_eq_append_getElem h,List.map_append,List.flatten_append,List.map_cons,List.map_nil,List.flatten_cons,List.flatten_nil,List.append_nil,blockLines,List.append_assoc]
structure LineOk(x:Sc):Prop where
 sc:SceneOk x
 place:1<=x.place/\x.place<=3
 time:1<=x.time/\x.time<=5
 no:x.no.length<1000000
 few:x.paras.length<=4000
theorem AyN{x:Sc}(h:SceneOk x):x.set.length<10000:=by
 have:=h.set;simp only[isSetL,properL,Bool.and_eq_true,Bool.not_eq_true',decide_eq_false_iff_not]at this;have:=this.1.2.1;omega
theorem LineOk.head{x:Sc}(h:LineOk x):(headL x).length<2000000:=by
 have l1:=AjQ x.place;have l2:=AmY x.time;have l3:=AyN h.sc;have l4:=h.no;unfold headL AdS
 split <;> simp <;> omega
theorem LineOk.bound{x:Sc}(h:LineOk x):(∀ b∈blocksL x,b.lines.length<=11000000)/\(blocksL x).length<=4001:=by
 obtain⟨e,hr,_,_⟩:=h.sc.run;exact AvF (fun p hp=>AsG (AyK _ _ _ hr p hp)) h.head h.few
theorem AhP{bs:List Bl}(h:∀ b∈bs,b.lines.length<=11000000):∀ i,i<=bs.length->(linesTo bs i).length<=11000002*i
 | 0,_=>by simp[linesTo]
 | i+1,hi=>by
  have hl:i<bs.length:=by omega
  have ih:=AhP h i (by omega);have hb:=h bs[i] (List.getElem_mem hl);have hg:gapN bs[i]<=2:=by unfold gapN; split <;> omega
  rw[AkH hl];simp only[List.length_append,List.length_replicate];omega
theorem AvG(x:Sc):linesL x=linesTo (blocksL x) (blocksL x).length:=by simp[linesL,linesTo]
theorem LineOk.lines{x:Sc}(h:LineOk x):(linesL x).length<=44100000000:=by
 rw[AvG];have:=AhP h.bound.1 _ (Nat.le_refl _);have:=h.bound.2;omega
theorem A8R{St:Std}(hS:LibOk St)(x:Sc)(hx:LineOk x):PcH prog St 84 [scA x] (· = .fz 1 ((linesL x).map .str)):=by
 have hb:=ApW hS x hx.sc hx.place hx.time hx.no (AyN hx.sc) hx.few;have hbd:=hx.bound;rw[AvG];generalize blocksL x=bs at *;simp only[scA]at hb |-;refine zqIF func84 rfl fun h ρ w hg=>?_
 simp only[go_sem];refine zqF hg (hb) ?_;simp only[go_sem,List.length_map];refine AaL (ι:=Nat) (fun i=>bs.length-i)
  (fun i=>[(9,.int .i64 i),(8,.int .i64 bs.length),(7,.fz 4 (bs.map blA)),(3,.sl 1 0 (linesTo bs i).length (linesTo bs i).length)])
  (fun i=>[.arr 5 [scA x],.arr 1 ((linesTo bs i).map .str)]) (fun i=>i<=bs.length) 0 (by simp) ?_ ?_
 .refine Shift.trans (Shift.nilsl 3 1 rfl) (Shift.weakS ?_ rfl)
  simp only[go_sem,linesTo]
  first|done|simp
 .intro i g1 J hJ
  have hll:=AhP hbd.1 i g1
  by_cases gi:i<bs.length
  .have di:decide ((i:Int)<(bs.length:Int))=true:=by simp; omega
   have hg':List.getD (List.map blA bs) i .any=.agg [.int .i64 bs[i].kind,.fz 1 (bs[i].lines.map .str),.fz 1 (bs[i].kinds.map (.int .i64)),.str bs[i].name]:=by simp[List.getD,gi,blA]
   have hgap:=BgB bs[i];have hst:=AkH gi;have hbl:=hbd.1 bs[i] (List.getElem_mem gi);have hgn:(if bs[i].kind==0 then(2:Int) else 1)=(gapN bs[i]:Nat):=by unfold gapN; split <;> rfl
   have hg2:gapN bs[i]<=2:=by unfold gapN; split <;> omega
   rw[hgn]at hgap;have hJ':=hJ (i+1) (by omega) (by omega);simp only[blA]at hgap;refine zgF ?_;simp only[go_sem,di,hg',List.length_map]
   repeat refine aqa ?_
   refine zpF (hgap) ?_;simp only[go_sem];generalize hL:linesTo bs i=L at *;generalize bs[i]=b at *;refine AaL (ι:=Nat) (fun k=>gapN b-k)
    (fun k=>[(15,.int .i64 k),(14,.int .i64 (gapN b:Nat)),(9,.int .i64 i),(8,.int .i64 bs.length),(7,.fz 4 (bs.map blA)),(5,.ptr 2 1 0 0),(3,.sl 1 0 (L.length+k) (L.length+k))])
    (fun k=>[.arr 5 [scA x],.arr 1 ((L++List.replicate k []).map .str),.arr 4 [blA b]]) (fun k=>k<=gapN b) 0 (by simp) ?_ ?_
   .refine Shift.weakS ?_ ?_
    .simp only [go_sem]
    .simp [scA,blA]
   .intro k f1 J2 hJ2
    by_cases gk:k<gapN b
    .have dk:decide ((k:Int)<((gapN b:Nat):Int))=true:=by simp; omega
     have hlm:(List.map AV.str (L++List.replicate k [])).length=L.length+k:=by simp
     have e1:List.map AV.str (L++List.replicate k [])++[.str []]=List.map AV.str (L++List.replicate (k+1) []):=by rw[List.replicate_succ']; simp
     refine zgF ?_;simp only[go_sem,dk,hlm]
     repeat refine aqa ?_
     rw[e1,show(k:Int)+1=((k+1:Nat):Int) by omega];refine ainv (hJ2 (k+1) (by omega) (by omega)) (Shift.weakS ?_ ?_)
     .simp only [go_sem]
      first|done|rfl
     .rfl
    .have dk:decide ((k:Int)<((gapN b:Nat):Int))=false:=by simp; omega
     have hk:k=gapN b:=by omega
     subst hk;have hlm:(List.map AV.str (L++List.replicate (gapN b) [])).length=L.length+gapN b:=by simp
     simp only[blA];refine zgF ?_;simp only[go_sem,dk,hlm,List.length_map]
     repeat refine aqa ?_
     have e2:List.map AV.str (L++List.replicate (gapN b) [])++List.map AV.str b.lines=List.map AV.str (linesTo bs (i+1)):=by rw[hst]; simp
     have e3:L.length+gapN b+b.lines.length=(linesTo bs (i+1)).length:=by rw[hst]; simp; omega
     rw[e2,e3,show(i:Int)+1=((i+1:Nat):Int) by omega];refine ainv hJ' (Shift.low 2 (by simp) (by simp) ?_ ?_)
     .simp only [List.take_succ_cons,List.take_zero,List.all_cons,List.all_nil,low_sc,low_strs,Bool.and_self]
     .simp only [go_sem]
  .have di:decide ((i:Int)<(bs.length:Int))=false:=by simp; omega
   have hi:i=bs.length:=by omega
   subst hi;refine zgF ?_;simp only[go_sem,di];refine ARet.shift (Shift.freeze 2 (id:=1) rfl rfl (by simp) (Nat.le_refl _) (AdJ _)) (aret [2] rfl ⟨?_,rfl⟩)
   simp[resV,Av.get,Av.put,List.take_of_length_le]
def nx(n:Nat):Int:=((16*n+54) / 108:Nat)
theorem AsK:∀ (l:List Sc)(acc:List (List UInt8))(f:Bool),AmV acc f l->paraSum l<=4000->∀ x∈l,LineOk x
 | [],_,_,_,_,x,hx=>by simp at hx
 | a::r,acc,f,h,hs,x,hx=>by
  have hsum:paraSum (a::r)=a.paras.length+paraSum r:=by simp[paraSum]
  rcases List.mem_cons.1 hx with rfl|hx
  .refine ⟨h.2.2.2.2.1,h.2.1,h.2.2.1,?_,by omega⟩
   rcases h.1 with h1|⟨_,h1,_⟩
   .rw [h1]; simp
   .exact h1
  .exact AsK r _ _ h.2.2.2.2.2 (by omega) x hx
