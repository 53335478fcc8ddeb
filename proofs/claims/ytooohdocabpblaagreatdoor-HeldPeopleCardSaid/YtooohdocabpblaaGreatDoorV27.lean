/- board.DaysOut. -/
import Derived.Test.YtooohdocabpblaaGreatDoorV26
set_option maxRecDepth 100000
set_option maxHeartbeats 8000000
set_option linter.all false
namespace Go.Proofs.YtooohdocabpblaaGreatDoor
open Av RowKit Proofs.Tryz
def stOf(p:Plan)(x:LU):Strip:=(p.strips.find? fun s=>s.scene==x).getD ⟨[],0,0,[],0,false,[],[]⟩
theorem AcF{p:Plan}{x:LU}(h:x∈p.strips.map (·.scene)):stOf p x∈p.strips/\(stOf p x).scene=x:=by
 obtain⟨s,hs,e⟩:=List.mem_map.1 h;unfold stOf
 cases hf:p.strips.find? (fun s=>s.scene==x)with
 | none=>exact absurd (List.find?_eq_none.1 hf s hs) (by simp[e])
 | some y =>
  have h1:=List.mem_of_find?_eq_some hf;have h2:=List.find?_some hf;exact⟨h1,by simpa using h2⟩
def evS(p:Plan)(d:Int)(x:LU):Evs:=(stOf p x).people.map fun k=>(d,k)
def evD(p:Plan)(d:BDay):Evs:=d.Lb.flatMap (evS p d.day)
def evB(p:Plan)(l:List BDay):Evs:=l.flatMap (evD p)
theorem AgO{p:Plan}{d:BDay}{e:Int×LU}(h:e∈evD p d):e.1=d.day:=by
 obtain⟨x,-,h⟩:=List.mem_flatMap.1 h;obtain⟨k,-,rfl⟩:=List.mem_map.1 h;rfl
theorem ApC{l:List BDay}(h:l.Pairwise fun a b=>a.day<b.day){i j:Nat}(hj:j<l.length)(hij:i<=j):(l[i]'(by omega)).day<=l[j].day:=by
 rcases lau i j with h2|h2
 .exact Int.le_of_lt (List.pairwise_iff_getElem.1 h i j (by omega) hj h2)
 .have:i=j:=by omega
  subst this; exact Int.le_refl _
theorem AmU(p:Plan){l:List BDay}(h:l.Pairwise fun a b=>a.day<b.day):(evB p l).Pairwise fun a b=>a.1<=b.1:=by
 rw[evB,List.pairwise_flatMap];refine⟨fun d _=>?_,h.imp fun hab x hx y hy=>by rw[AgO hx,AgO hy]; omega⟩;refine List.pairwise_of_forall_mem_list fun x hx y hy=>?_
 rw[AgO hx,AgO hy]; exact Int.le_refl _
theorem AhQ{ev:Evs}(h:ev.Pairwise fun a b=>a.1<=b.1)(k:LU):(dsOf ev k).Pairwise (·<·)/\∀ v∈dsOf ev k,∃ e∈ev,e.1=v:=by
 have key:∀ (ev:Evs) (acc:List Int),ev.Pairwise (fun a b=>a.1<=b.1)->acc.Pairwise (·<·)->(∀ v∈acc,∀ e∈ev,v<=e.1)->(ev.foldl (dsStep k) acc).Pairwise (·<·)/\∀ v∈ev.foldl (dsStep k) acc,v∈acc\/∃ e∈ev,e.1=v:=by
  intro ev
  induction ev with
  | nil=>intro acc _ h2 _; exact⟨h2,fun v hv=>.inl hv⟩
  | cons e r ih =>
   intro acc h1 h2 h3;rw[List.pairwise_cons]at h1;rw[List.foldl_cons]
   by_cases hc:e.2=k/\acc.getLast?≠some e.1
   .have e1:dsStep k acc e=acc++[e.1]:=by rw[dsStep,if_pos hc]
    rw[e1];have hlt:∀ v∈acc,v<e.1:=fun v hv=>by
     have h5:=h3 v hv e (by simp)
     rcases Int.lt_or_eq_of_le h5 with h6|h6
     .exact h6
     .exfalso
      obtain⟨q,hq,rfl⟩:=List.getElem_of_mem hv
      rcases lau q (acc.length-1)with h7|h7
      .have h8:=List.pairwise_iff_getElem.1 h2 q (acc.length-1) hq (by omega) h7
       have h9:=h3 _ (lae (show acc.length-1<acc.length by omega)) e (by simp);omega
      .refine hc.2 ?_
       rw[List.getLast?_eq_getElem?,<- h6,las (by omega)]
       congr 2; omega
    obtain⟨a1,a2⟩:=ih (acc++[e.1]) h1.2 (List.pairwise_append.2 ⟨h2,by simp,fun a ha b hb=>by rw[List.mem_singleton.1 hb]; exact hlt a ha⟩) (fun v hv f hf=>by
     rcases List.mem_append.1 hv with hv|hv
     .exact h3 v hv f (by simp[hf])
     .rw [List.mem_singleton.1 hv]; exact h1.1 f hf)
    refine⟨a1,fun v hv=>?_⟩
    rcases a2 v hv with hv|⟨f,hf,h6⟩
    .rcases List.mem_append.1 hv with hv|hv
     .exact .inl hv
     .exact .inr ⟨e,by simp,(List.mem_singleton.1 hv).symm⟩
    .exact .inr ⟨f,by simp[hf],h6⟩
   .have e1:dsStep k acc e=acc:=by rw[dsStep,if_neg hc]
    rw[e1];obtain⟨a1,a2⟩:=ih acc h1.2 h2 fun v hv f hf=>h3 v hv f (by simp[hf])
    exact⟨a1,fun v hv=>(a2 v hv).imp id fun⟨f,hf,h6⟩=>⟨f,by simp[hf],h6⟩⟩
 obtain⟨a1,a2⟩:=key ev [] h .nil (by simp);exact⟨a1,fun v hv=>(a2 v hv).resolve_left (by simp)⟩
structure Row where
 key:LU
 marks:List Int
 works:Int
 holds:Int
structure RowOk(fst lst:Int)(ev:Evs)(x:Row):Prop where
 works:x.works=(dsOf ev x.key).length
 len:(x.marks.length:Int)=lst-fst+1
 work:∀ i (h:i<x.marks.length),x.marks[i]=1 ↔ fst+i∈dsOf ev x.key
 hold:∀ i (h:i<x.marks.length),x.marks[i]=2->(∃ a∈dsOf ev x.key,a<fst+i)/\∃ b∈dsOf ev x.key,fst+i<b
def rowA(x:Row):AV:=.agg [.str x.key,.fz 1 (iA x.marks),kI x.works,kI x.holds]
theorem AjK{α β:Type}(a:Nat)(f:α->List β):∀ {l:List α},(∀ d∈l,(f d).length<=a)->(l.flatMap f).length<=a*l.length:=by
 intro l hl
 induction l with
 | nil=>simp
 | cons d l ih =>
  have h1:=hl d (by simp);have h2:=ih fun x hx=>hl x (by simp[hx])
  simp only[List.flatMap_cons,lat,lan,Nat.mul_succ];omega
theorem AcZ{p:Plan}(ok:PlanOk p){st:Strip}(hs:st∈p.strips):st.people.length<=4:=by
 have h1:=(ok.strips st hs).people.length_le;have h2:=ok.crew.people.2.1;have:=List.length_take_le p.crew.people.length PeopleL;omega
theorem AhR:∀ l:List Row,(flat (l.map rowA)).all Av.frozen=true:=AcD fun _=>rfl
theorem AuL{c:Cx}{E:LB}(hE:E.all (lowB E.length)=true)(hc:c.sto.length<=E.length)(t es:Nat)(L:LA)(n:Nat)(hn:L.length=n)(hf:(flat L).all Av.frozen=true) :
  Shift c [(t,.sl E.length 0 n n)] (E++[.arr es L]) [(t,.fz es L)] E:=by
 have sh:=Shift.frz (c:=c) (en:=[(t,.sl E.length 0 n n)]) (s:=E++[.arr es L]) E.length (by rw[gt_at0]; rfl) hf;subst hn;have e1:frzE E.length es L [(t,.sl E.length 0 L.length L.length)]=[(t,.fz es L)]:=by
  simp only[go_sem,frzE,frz,frz1,lal,List.take_length]
 have e2:((E++[Blk.arr es L]).set E.length .dead).map (frzB E.length es L)=E++[.dead]:=by
  rw[st_at0,lav];have:∀ b∈E,frzB E.length es L b=b:=fun b hb=>AsD (lal _) (List.all_eq_true.1 hE b hb)
  rw[lbl this,List.map_id'];rfl
 rw[e1,e2]at sh;exact Shift.trans sh (AaC E [.dead] rfl hc hE (by simp[wkl,Av.get,lowV,lowC,Av.frozen]))
theorem agrE{E:LB}{k:Nat}{a b:Blk}{V W:LB}:Agr (E.length+2) k (E++a::b::V) (E++a::b::W):=fun i hi _=>by
 have h:∀ V,(E++a::b::V).getD i .dead=(E++[a,b]).getD i .dead:=fun V=>by
  rw[show E++a::b::V=(E++[a,b])++V by simp,lam,lao (by simp; omega),<- lam]
 rw[h V,h W]
def mkI:Bool->Nat
 | true=>0
 | false=>1
def rbI:Bool->Nat
 | true=>1
 | false=>0
def xT:Bool->List Int->AV->LB
 | true,ms,r=>[.arr 1 (iA ms),.arr 4 [r]]
 | false,ms,r=>[.arr 4 [r],.arr 1 (iA ms)]
theorem xT_mk(b:Bool)(ms:List Int)(r:AV):(xT b ms r).getD (mkI b) .dead=.arr 1 (iA ms):=by cases b <;> rfl
theorem xT_rb(b:Bool)(ms:List Int)(r:AV):(xT b ms r).getD (rbI b) .dead=.arr 4 [r]:=by cases b <;> rfl
theorem xT_smk(b:Bool)(ms ms':List Int)(r:AV):(xT b ms r).set (mkI b) (.arr 1 (iA ms'))=xT b ms' r:=by cases b <;> rfl
theorem xT_srb(b:Bool)(ms:List Int)(r r':AV):(xT b ms r).set (rbI b) (.arr 4 [r'])=xT b ms r':=by cases b <;> rfl
theorem ApD(l:List Int){i:Nat}(h:i<l.length):(iA l).getD i .any=kI l[i]:=by simp[iA,List.getD,h]
def yT:Bool->AV->LB
 | true,r=>[.dead,.arr 4 [r]]
 | false,r=>[.arr 4 [r],.dead]
theorem yT_rb(b:Bool)(r:AV):(yT b r).getD (rbI b) .dead=.arr 4 [r]:=by cases b <;> rfl
theorem A1E{c:Cx}{U:LB}(hU:U.all (lowB U.length)=true)(b:Bool)(ms:List Int)(N:Nat)(hN:ms.length=N)(k:LU)(w h:Int)(E0:Env)(hE:frzE (U.length+mkI b) 1 (iA ms) E0=E0) :
  Shift c E0 (U++xT b ms (.agg [.str k,.sl (U.length+mkI b) 0 N N,kI w,kI h])) E0 (U++yT b (.agg [.str k,.fz 1 (iA ms),kI w,kI h])):=by
 subst hN;have sh:=Shift.frz (c:=c) (en:=E0) (s:=U++xT b ms (.agg [.str k,.sl (U.length+mkI b) 0 ms.length ms.length,kI w,kI h])) (U.length+mkI b) (by rw[gt_at,xT_mk]) (AyD ms);rw[hE]at sh;have e:((U++xT b ms (.agg [.str k,.sl (U.length+mkI b) 0 ms.length ms.length,kI w,kI h])).set (U.length+mkI b) .dead).map (frzB (U.length+mkI b) 1 (iA ms))=U++yT b (.agg [.str k,.fz 1 (iA ms),kI w,kI h]):=by
  rw[st_at,lav,frzD hU (by omega)]
  congr 1
  have tk:(iA ms).take ms.length=iA ms:=laf (by simp[iA])
  cases b <;> simp[xT,yT,mkI,frzB,frzC,frz1,tk]
 rw[e]at sh;exact sh
structure MkOk(fst:Int)(ms:List Int)(ds:List Int):Prop where
 work:∀ i (h:i<ms.length),ms[i]=1 ↔ fst+i∈ds
 hold:∀ i (h:i<ms.length),ms[i]=2->(∃ a∈ds,a<fst+i)/\∃ b∈ds,fst+i<b
theorem MkOk.day{fst v:Int}{q:Nat}{ms ds:List Int}(h:MkOk fst ms ds)(hq:v-fst=(q:Int)):MkOk fst (ms.set q 1) (ds++[v]):=by
 refine⟨fun i hi=>?_,fun i hi e=>?_⟩
 .rw [List.getElem_set,List.mem_append,List.mem_singleton]
  split
  .rename_i e; exact⟨fun _=>.inr (by omega),fun _=>rfl⟩
  .rename_i e
   rw[h.work i (by simpa using hi)];exact⟨.inl,fun h2=>h2.resolve_right (by omega)⟩
 .rw [List.getElem_set]at e
  split at e
  .cases e
  .obtain ⟨⟨a,ha,h1⟩,b,hb,h2⟩:=h.hold i (by simpa using hi) e
   exact⟨⟨a,by simp[ha],h1⟩,b,by simp[hb],h2⟩
theorem MkOk.fill{fst mk a b:Int}{ms ms' ds:List Int}(h:MkOk fst ms ds)(hk:mk=2\/mk=3)(ha:a∈ds)(hb:b∈ds)(hno:∀ v∈ds,¬ (a<v/\v<b))(hl:ms'.length=ms.length)
  (hf:∀ i (h1:i<ms'.length),ms'[i]=if a<fst+i/\fst+i<b then mk else ms[i]'(by omega)):MkOk fst ms' ds:=by
 refine⟨fun i hi=>?_,fun i hi e=>?_⟩
 .rw [hf i hi]
  split
  .rename_i e
   exact⟨fun h2=>by omega,fun h2=>absurd e (hno _ h2)⟩
  .exact h.work i (by omega)
 .rw [hf i hi]at e
  split at e
  .rename_i e2
   exact⟨⟨a,ha,e2.1⟩,b,hb,e2.2⟩
  .exact h.hold i (by omega) e
theorem mkOk_nil{fst:Int}{N:Nat}{l:List Int}:MkOk fst (List.replicate N 0) (l.take 0):=⟨fun i h=>by simp,fun i h e=>by simp at e⟩
theorem AyF(k:LU):∀ (gs:List Wg)(n:Nat),(mfind .string (.str k) (wF gs) n=some none/\k ∉ gs.map (·.key))\/∃ i g,mfind .string (.str k) (wF gs) n=some (some (i,.fz 1 (iA g.ds)))/\g∈gs/\g.key=k
 | [],n=>.inl ⟨rfl,by simp⟩
 | g::r,n=>by
  simp only[wF,lak,mfind,keyEq]
  cases hb:k==g.key with
  | true =>
   have:k=g.key:=by simpa using hb
   exact .inr ⟨n,g,rfl,by simp,this.symm⟩
  | false =>
   have hb':k≠g.key:=by simpa using hb
   rcases AyF k r (n+1)with⟨h,h'⟩|⟨i,g',h1,h2,h3⟩
   .exact .inl ⟨h,by simp only[lbf,not_or]; exact⟨hb',h'⟩⟩
   .exact .inr ⟨i,g',h1,by simp[h2],h3⟩
theorem ArC{S:Std}(p:Plan)(ok:PlanOk p)(l:List BDay)(okb:BoardOk p l) :
  CtH prog S 22 [.ptr 3 1 0 0,boardA l] (dkT p [] (tailT p)) (fun r s=>∃ rows:List Row,r=.fz 4 (rows.map rowA)/\rows.length<=10/\(∀ x∈rows,∃ h:0<l.length,RowOk l[0].day l[l.length-1].day (evB p l) x)/\∃ V,s=dkT p [] (tailT p)++V):=by
 have hsc:=ok.desk.Lb;have hst:∀ x∈p.strips.map (·.scene),∀ U,CtH prog S 41 [.ptr 3 1 0 0,.str x] (dkT p [] (tailT p)++U) (fun r s=>r=stripA (stOf p x)/\∃ V,s=dkT p [] (tailT p)++(U++V)):=fun x hx U=>by
  obtain⟨h1,h2⟩:=AcF hx;have h:=AgN (S:=S) p [] (tailT p++U) hsc (stOf p x) h1 (by have:=ok.few; omega);rw[h2]at h;refine CtH.impG h ?_;rintro _ _ ⟨rfl,V,rfl⟩;exact⟨rfl,V,by rw[<- lab]; rfl⟩
 simp only[boardA]
 by_cases hl:l=[]
 .subst hl
  generalize dkT p [] (tailT p)=D at *;refine zdIB func22 rfl fun h ρ w hg=>?_
  simp only[go_sem];exact ARet.shift (Shift.nilfz 4 4 rfl) (aret [4] rfl ⟨[],rfl,by simp,by simp,[],by simp⟩)
 have hlp:=List.length_pos_iff.2 hl;have hfew:=okb.few;have dz:((l.length:Int)==0)=false:=beq_eq_false_iff_ne.2 (by omega);have q0:=AbZ l hlp;have q9:=AbZ l (show l.length-1<l.length by omega);have e9:(l.length:Int)-1=((l.length-1:Nat):Int):=by omega
 obtain⟨fst,hfst⟩:∃ v,v=l[0].day:=⟨_,rfl⟩;obtain⟨lst,hlst⟩:∃ v,v=l[l.length-1].day:=⟨_,rfl⟩;have hfl:fst<=lst/\0<=fst/\lst<=100:=by
  have h1:=(okb.days _ (lae hlp)).1;have h2:=(okb.days _ (lae (show l.length-1<l.length by omega))).2.1;have h3:=ApC okb.ord (i:=0) (j:=l.length-1) (by omega) (by omega);omega
 have hbd:∀ k v,v∈dsOf (evB p l) k->fst<=v/\v<=lst:=fun k v hv=>by
  obtain⟨e,he,rfl⟩:=(AhQ (AmU p okb.ord) k).2 v hv;obtain⟨d,hd,he⟩:=List.mem_flatMap.1 he;rw[AgO he];obtain⟨q,hq,rfl⟩:=List.getElem_of_mem hd;have h3:=ApC okb.ord (i:=0) (j:=q) hq (by omega);have h4:=ApC okb.ord (i:=q) (j:=l.length-1) (by omega) (by omega);omega
 have hD3:∀ U,(dkT p [] (tailT p)++U).getD 3 .dead=deskB p p.strips.length:=fun U=>rfl
 have hlow:=AyB p _ (lal _);have hD4:6<=(dkT p [] (tailT p)).length:=by rw[dk_len]; omega
 rw[<- dk_len p []]at hlow;generalize dkT p [] (tailT p)=D at *;refine zdIB func22 rfl fun h ρ w hg=>?_
 simp only[go_sem,dz,laa];refine zr [] AaL ?_;simp only[go_sem,q0,q9,bdayA,strA,e9,laa]
 repeat refine aqf ?_
 rw[<- hfst,<- hlst];apply zgB;simp only[go_sem,laa];refine AbA (ι:=Nat×List Wg×LB) (κ:=List Wg×LB) (fun x=>l.length-x.1)
  (fun x=>[(47,kI x.1),(46,kI l.length),(45,.fz 2 (l.map bdayA)),(7,.mp D.length),(6,kI lst),(5,kI fst),(0,.ptr 3 1 0 0)]) (fun x=>D++(.mp (wM D.length x.2.1)::x.2.2))
  (fun x=>x.1<=l.length/\WkOk ((l.take x.1).flatMap (evD p)) x.2.1 x.2.2)
  (fun x=>[(7,.mp D.length),(6,kI lst),(5,kI fst),(0,.ptr 3 1 0 0)]) (fun x=>D++(.mp (wM D.length x.1)::x.2)) (fun x=>WkOk (evB p l) x.1 x.2) (0,[],[]) ⟨by simp,WkOk.nil⟩ ?_ ?_ ?_
 .refine Lg ?_ rfl
  simp only[go_sem]
  try rfl
 .rintro ⟨gs,S'⟩ hgs
  simp only at hgs |-;refine AWp.shift (AyE hlow (by simp) [(7,.mp D.length),(6,kI lst),(5,kI fst),(0,.ptr 3 1 0 0)] (fun id l hid=>by
   have:(3==id)=false:=by simp; omega
   simp only[frzE,frz,frz1,this,Bool.false_and,lap]) (by simp only[go_sem]; omega) gs [] S' hgs.blk hgs.ne) ?_
  rw[lax];apply zgB;simp only[go_sem,hD3,deskB,planC,gt_at0,st_at0,gt_at,st_at,lab,laa];have hE3:∀ U,((D++[Blk.mp (wF gs)])++U).getD 3 .dead=deskB p p.strips.length:=fun U=>by rw[lab]; exact hD3 _
  have hE7:∀ U,((D++[Blk.mp (wF gs)])++U).getD D.length .dead=.mp (wF gs):=fun U=>by rw[lab,gt_at0]; rfl
  have hElow:(D++[Blk.mp (wF gs)]).all (lowB (D++[Blk.mp (wF gs)]).length)=true:=by
   rw[lat,lbd,AdK hlow (by omega),lay,A3C]; rfl
  have hEm:D.length<(D++[Blk.mp (wF gs)]).length:=by simp
  have hDE:∀ V,D++[Blk.mp (wF gs)]++V=D++([Blk.mp (wF gs)]++V):=fun V=>lab _ _ _
  have hc0:D.length<(D++[Blk.mp (wF gs)]).length:=by simp
  have hEp:∃ V,D++[Blk.mp (wF gs)]=D++V:=⟨_,rfl⟩;generalize D++[Blk.mp (wF gs)]=E at *;obtain⟨m,hm⟩:∃ m,m=D.length:=⟨_,rfl⟩;rw[<- hm]at hE7 hEm |-;refine AWp.shift (Shift.nilsl 15 4 rfl) ?_;refine AbA (ι:=Nat×List Row) (κ:=List Row) (fun x=>p.crew.people.length-x.1)
   (fun x=>[(101,kI x.1),(100,kI p.crew.people.length),(99,.fz 9 (p.crew.people.map persA)),(15,.sl E.length 0 x.2.length x.2.length),(7,.mp m),(6,kI lst),(5,kI fst),(0,.ptr 3 1 0 0)]) (fun x=>E++[.arr 4 (x.2.map rowA)])
   (fun x=>x.1<=p.crew.people.length/\x.2.length<=x.1/\∀ r∈x.2,RowOk fst lst (evB p l) r)
   (fun x=>[(15,.sl E.length 0 x.length x.length)]) (fun x=>E++[.arr 4 (x.map rowA)]) (fun x=>x.length<=10/\∀ r∈x,RowOk fst lst (evB p l) r) (0,[]) ⟨by simp,by simp,by simp⟩ ?_ ?_ ?_
  .refine Lg ?_ rfl
   simp only[go_sem]
   try rfl
  .rintro rows ⟨hrl,hr⟩
   refine AWp.shift (AuL hElow (by simp only; omega) 15 4 (rows.map rowA) rows.length (by simp) (AhR rows)) ?_;apply zgB;simp only[go_sem];exact aret [4] rfl ⟨rows,rfl,hrl,fun x hx=>⟨hlp,by rw[<- hfst,<- hlst]; exact hr x hx⟩,hEp⟩
  rintro⟨i,rows⟩ ⟨g1,g2,g3⟩ J Q hJ hQ;simp only at g1 g2 g3 hJ hQ |-;have hpf:=ok.crew.people.2.1
  rcases lau i p.crew.people.length with hi|hi
  case inr =>
   have di:decide ((i:Int)<(p.crew.people.length:Int))=false:=by simp; omega
   have hfin:=hQ rows ⟨by omega,g3⟩;apply zgB;simp only[go_sem,di];refine ainv hfin (Lg ?_ rfl);simp only[go_sem]
   try rfl
  have di:decide ((i:Int)<(p.crew.people.length:Int))=true:=by simp; omega
  have p1:=AfM p.crew.people hi;have hno:=hJ (i+1,rows) ⟨by simp only; omega,by simp only; omega,g3⟩ (by simp only; omega);have hyes:=fun r (h:RowOk fst lst (evB p l) r)=>hJ (i+1,rows++[r]) ⟨by simp only; omega,by simp; omega,fun y hy=>by
   rcases List.mem_append.1 hy with hy|hy
   .exact g3 y hy
   .rw [List.mem_singleton.1 hy]; exact h⟩ (by simp only; omega)
  simp only at hno hyes;clear hJ hQ;generalize p.crew.people[i]=y at *
  rcases AyF y.key gs 0 with⟨m1,mne⟩|⟨n,g,m1,m2,mk⟩
  .apply zgB
   simp only[go_sem,di,p1,persA,m1,hE7,gt_at0,st_at0,gt_at,st_at,lab,laa]
   repeat refine aqf ?_
   rw[ic i];refine ainv hno (AaC (E++[.arr 4 (rows.map rowA)]) [_] (by simp; rfl) (by simp; omega) ?_ ?_)
   .rw [lat,lbd,AdK hElow (by omega),lay,show lowB (E.length+[Blk.arr 4 (rows.map rowA)].length) (.arr 4 (rows.map rowA))=true from AbV (AhR rows)]; rfl
   simp only[go_sem];omega
  .have hds:=(hgs.ds g m2).2
   have hde:=(hgs.ds g m2).1;have hdp:=List.length_pos_iff.2 hds;have dz:((g.ds.length:Int)==0)=false:=beq_eq_false_iff_ne.2 (by omega);apply zgB;simp only[go_sem,di,p1,persA,m1,hE7,dz,gt_at0,st_at0,gt_at,st_at,lab,laa]
   repeat refine aqf ?_
   obtain⟨N,hN⟩:∃ N:Nat,lst-fst+1=(N:Int):=⟨(lst-fst+1).toNat,by omega⟩;obtain⟨box,hbox⟩:∃ b,b=Blk.arr 9 [.agg [.str y.key,kI y.born,kI y.week,kI y.fr,kI y.til,.fz 2 (y.away.map spanA),kI y.long,kI y.rest,kI y.row]]:=⟨_,rfl⟩;have hU:E++[Blk.arr 4 (rows.map rowA),box]=(E++[Blk.arr 4 (rows.map rowA),box])++[]:=by simp
   have hUl:(E++[Blk.arr 4 (rows.map rowA),box]).length=E.length+2:=by simp
   refine acut (ι:=Bool) (fun b=>[(19,.ptr (E.length+2+rbI b) 1 0 0),(18,.fz 1 (iA g.ds)),(101,kI i),(100,kI p.crew.people.length),(99,.fz 9 (p.crew.people.map persA)),(15,.sl E.length 0 rows.length rows.length),(7,.mp m),(6,kI lst),(5,kI fst),(0,.ptr 3 1 0 0)])
    (fun b=>(E++[Blk.arr 4 (rows.map rowA),box])++xT b (List.replicate N 0) (.agg [.str y.key,.sl (E.length+2+mkI b) 0 N N,kI g.ds.length,kI 0])) (fun _=>True) ?_ ?_
   .intro J2 hJ2
    refine AxA [6,10,11] [] (E.length+2) (E.length+100) [[0,1,2,3,4,5,6,7,8,9,10,11],[10,0,1,2,3,4,5,6,7,8,9,11]]
     (fun _=>.any) (fun _ s=>(.any,s)) AaL (AiZ [6,10,11] (by decide +kernel)) (by decide +kernel) (by decide +kernel) rfl rfl 100 ?_
    simp only[lbf,List.not_mem_nil,or_false,forall_eq_or_imp,forall_eq];refine⟨?_,?_⟩
    .simp only[go_sem,Go.Av.dxy,Go.Av.dxyc,Go.Av.pix,Go.Av.gOnB,↓Go.Av.AcP,↓Go.Av.AbX,Go.Av.dbry,List.filterMap_cons,List.filterMap_nil,hN,gt_at0,st_at0,gt_at,st_at,lab,laa]
     repeat refine And.intro (by first|omega|rfl|exact agrE|exact .inl trivial|(simp; done)) ?_
     subst hbox;refine ainv (hJ2 true trivial) (Lg ?_ (by simp[xT,mkI,iA]));simp only[go_sem,rbI,mkI]
     try rfl
    .simp only[go_sem,Go.Av.dxy,Go.Av.dxyc,Go.Av.pix,Go.Av.gOnB,↓Go.Av.AcP,↓Go.Av.AbX,Go.Av.dbry,List.filterMap_cons,List.filterMap_nil,hN,gt_at0,st_at0,gt_at,st_at,lab,laa]
     repeat refine And.intro (by first|omega|rfl|exact agrE|exact .inl trivial|(simp; done)) ?_
     subst hbox;refine ainv (hJ2 false trivial) (Lg ?_ (by simp[xT,mkI,iA]));simp only[go_sem,rbI,mkI]
     try rfl
   intro b _;have hinc:g.ds.Pairwise (·<·):=by rw[hde]; exact(AhQ (AmU p okb.ord) g.key).1
   have hin:∀ v∈g.ds,fst<=v/\v<=lst:=fun v hv=>by
    rw[hde]at hv;exact hbd _ v hv
   have hdl:g.ds.length<=500:=by
    rw[hde];refine Nat.le_trans (AsP _ _) (Nat.le_trans (AjK 36 (evD p) (l:=l) fun d hd=>?_) (by omega));refine Nat.le_trans (AjK 4 (evS p d.day) fun x hx=>?_) (Nat.mul_le_mul_left 4 (okb.days d hd).2.2.2);rw[evS,laa];exact AcZ ok (AcF (okb.Lb.2 x (List.mem_flatMap.2 ⟨_,hd,hx⟩))).1
   apply zgB;simp only[go_sem,laa,iA];refine AbA (ι:=Nat×List Int×Int) (κ:=List Int×Int) (fun x=>g.ds.length-x.1)
    (fun x=>[(124,kI x.1),(123,kI g.ds.length),(122,.fz 1 (iA g.ds)),(19,.ptr (E.length+2+rbI b) 1 0 0),(18,.fz 1 (iA g.ds)),(101,kI i),(100,kI p.crew.people.length),(99,.fz 9 (p.crew.people.map persA)),(15,.sl E.length 0 rows.length rows.length),(7,.mp m),(6,kI lst),(5,kI fst),(0,.ptr 3 1 0 0)])
    (fun x=>(E++[Blk.arr 4 (rows.map rowA),box])++xT b x.2.1 (.agg [.str y.key,.sl (E.length+2+mkI b) 0 N N,kI g.ds.length,kI x.2.2]))
    (fun x=>x.1<=g.ds.length/\x.2.1.length=N/\0<=x.2.2/\x.2.2<=1000*x.1/\MkOk fst x.2.1 (g.ds.take x.1))
    (fun x=>[(19,.ptr (E.length+2+rbI b) 1 0 0),(101,kI i),(100,kI p.crew.people.length),(99,.fz 9 (p.crew.people.map persA)),(15,.sl E.length 0 rows.length rows.length),(7,.mp m),(6,kI lst),(5,kI fst),(0,.ptr 3 1 0 0)])
    (fun x=>(E++[Blk.arr 4 (rows.map rowA),box])++xT b x.1 (.agg [.str y.key,.sl (E.length+2+mkI b) 0 N N,kI g.ds.length,kI x.2]))
    (fun x=>x.1.length=N/\MkOk fst x.1 g.ds) (0,List.replicate N 0,0) ⟨by simp,by simp,by simp,by simp,mkOk_nil⟩ ?_ ?_ ?_
   .refine Lg ?_ rfl
    simp only[go_sem]
    try rfl
   .rintro ⟨ms,hd⟩ ⟨hml,hmk⟩
    simp only at hml hmk |-;have hrow:RowOk fst lst (evB p l) ⟨y.key,ms,g.ds.length,hd⟩:=by
     rw[<- mk];exact⟨by simp only; rw[<- hde],by simp only; omega,fun i hi=>by simp only; rw[<- hde]; exact hmk.work i hi,fun i hi=>by simp only; rw[<- hde]; exact hmk.hold i hi⟩
    have hy:=hyes _ hrow;have hUlow:(E++[Blk.arr 4 (rows.map rowA),box]).all (lowB (E++[Blk.arr 4 (rows.map rowA),box]).length)=true:=by
     rw[lbd,AdK hElow (by simp),hbox,lay,show ∀ n,lowB n (.arr 4 (rows.map rowA))=true from fun n=>AbV (AhR rows)]; rfl
    rw[<- hUl];refine AWp.shift (A1E hUlow b ms N hml y.key g.ds.length hd [(19,.ptr ((E++[Blk.arr 4 (rows.map rowA),box]).length+rbI b) 1 0 0),(101,kI i),(100,kI p.crew.people.length),(99,.fz 9 (p.crew.people.map persA)),(15,.sl E.length 0 rows.length rows.length),(7,.mp m),(6,kI lst),(5,kI fst),(0,.ptr 3 1 0 0)] (by
     have n1:∀ x,x<E.length+2->(x==E.length+2+mkI b)=false:=fun x hx=>by simp; omega
     have n2:((E.length+2+rbI b)==E.length+2+mkI b)=false:=by cases b <;> simp[rbI,mkI]
     simp only[hUl,frzE,frz,frz1,n1 E.length (by omega),n1 3 (by omega),n2,Bool.false_and,lap])) ?_
    rw[hUl];have hrb:∀ r,(E++Blk.arr 4 (rows.map rowA)::box::yT b r).getD (E.length+2+rbI b) .dead=.arr 4 [r]:=fun r=>by
     rw[Nat.add_assoc,gt_at,show 2+rbI b=rbI b+1+1 by omega,List.getD_cons_succ,List.getD_cons_succ,yT_rb]
    have e3:rows.map rowA++[.agg [.str y.key,.fz 1 (iA ms),kI g.ds.length,kI hd]]=(rows++[(⟨y.key,ms,g.ds.length,hd⟩:Row)]).map rowA:=by simp[rowA]
    rw[show(rows++[(⟨y.key,ms,g.ds.length,hd⟩:Row)]).length=rows.length+1 by simp,<- e3]at hy;have lr:=AbV (n:=E.length+1) (AhR (rows++[(⟨y.key,ms,g.ds.length,hd⟩:Row)]));rw[<- e3]at lr;apply zgB;simp only[go_sem,hrb,gt_at0,st_at0,gt_at,st_at,lab,laa]
    repeat refine aqi ?_
    rw[ic i];refine ainv hy (AaC (E++[.arr 4 (rows.map rowA++[.agg [.str y.key,.fz 1 (iA ms),kI g.ds.length,kI hd]])]) (box::yT b _) (by simp; rfl) (by simp; omega) ?_ ?_)
    .rw [lat,lbd,AdK hElow (by omega),lay]
     show(true&&(lowB (E.length+1) _&&true))=true
     rw[show lowB (E.length+1) (.arr 4 (rows.map rowA++[.agg [.str y.key,.fz 1 (iA ms),kI g.ds.length,kI hd]]))=true from lr]; rfl
    simp only[go_sem];omega
   clear hno hyes;rintro⟨j,ms,hd⟩ ⟨q1,q2,q3,q4,q5⟩ J3 Q3 hJ hQ;simp only at q1 q2 q3 q4 q5 hJ hQ |-;rw[<- hUl]at hJ hQ |-;have hU3:∀ V,(E++[Blk.arr 4 (rows.map rowA),box]++V).getD 3 .dead=deskB p p.strips.length:=fun V=>by rw[lab]; exact hE3 _
   generalize E++[Blk.arr 4 (rows.map rowA),box]=U at hJ hQ hU3 |-
   rcases lau j g.ds.length with hj|hj
   case inr =>
    have dj:decide ((j:Int)<(g.ds.length:Int))=false:=by simp; omega
    rw[laf (by omega)]at q5;have hf:=hQ (ms,hd) ⟨q2,q5⟩;apply zgB;simp only[go_sem,dj];refine ainv hf (Lg ?_ rfl);simp only[go_sem]
    try rfl
   have dj:decide ((j:Int)<(g.ds.length:Int))=true:=by simp; omega
   have v1:=ApD g.ds hj;obtain⟨v2,v3⟩:=hin _ (lae hj);obtain⟨q,hq⟩:∃ q:Nat,g.ds[j]-fst=(q:Int):=⟨(g.ds[j]-fst).toNat,by omega⟩;have hqN:q<N:=by omega
   have hset:(iA ms).set q (kI 1)=iA (ms.set q 1):=by simp[iA,List.map_set]
   have v4:=ApD ms (i:=q) (by omega);have htk:g.ds.take (j+1)=g.ds.take j++[g.ds[j]]:=lag hj;have hday:=q5.day (ms:=ms) hq;rw[<- htk]at hday
   rcases Nat.eq_zero_or_pos j with h0|h0
   .have d0:((j:Int)==0)=true:=by simp; omega
    have hf:=hJ (j+1,ms.set q 1,hd) ⟨by simp only; omega,by simp[q2],by simp only; omega,by simp only; omega,hday⟩ (by simp only; omega);apply zgB;simp only[go_sem,dj,v1,hq,hset,v4,d0,q2,xT_mk,xT_rb,xT_smk,xT_srb,gt_at0,st_at0,gt_at,st_at,laa]
    repeat refine aqf ?_
    rw[ic j];refine ainv hf (Lg ?_ rfl);simp only[go_sem]
    try rfl
   .have d0:((j:Int)==0)=false:=by simp; omega
    have e1:(j:Int)-1=((j-1:Nat):Int):=by omega
    have v5:=ApD g.ds (show j-1<g.ds.length by omega);have hlt:=List.pairwise_iff_getElem.1 hinc (j-1) j (by omega) hj (by omega);obtain⟨w2,w3⟩:=hin _ (lae (show j-1<g.ds.length by omega));obtain⟨gp,hgp⟩:∃ gp:Nat,g.ds[j]-g.ds[j-1]-1=(gp:Int):=⟨(g.ds[j]-g.ds[j-1]-1).toNat,by omega⟩;have hgp2:gp<=100:=by omega
    have hf:=fun(ms':List Int) (hd':Int) (h1:ms'.length=N) (h2:0<=hd'/\hd'<=hd+1000) (h3:MkOk fst ms' (g.ds.take (j+1)))=>hJ (j+1,ms',hd') ⟨by simp only; omega,h1,h2.1,by simp only; omega,h3⟩ (by simp only; omega)
    simp only at hf
    cases dg:decide ((gp:Int)>=p.rules.gap)with
    | true =>
     apply zgB;simp only[go_sem,dj,v1,hq,hset,v4,d0,q2,e1,v5,hgp,dg,hU3,deskB,planC,xT_mk,xT_rb,xT_smk,xT_srb,gt_at0,st_at0,gt_at,st_at,laa]
     repeat refine aqf ?_
     refine AbA (ι:=Nat×List Int) (κ:=List Int) (fun x=>gp-x.1)
      (fun x=>[(159,kI x.1),(158,kI gp),(23,kI 3),(20,kI j),(124,kI j),(123,kI g.ds.length),(122,.fz 1 (iA g.ds)),(19,.ptr (U.length+rbI b) 1 0 0),(18,.fz 1 (iA g.ds)),(101,kI i),(100,kI p.crew.people.length),(99,.fz 9 (p.crew.people.map persA)),(15,.sl E.length 0 rows.length rows.length),(7,.mp m),(6,kI lst),(5,kI fst),(0,.ptr 3 1 0 0)])
      (fun x=>U++xT b x.2 (.agg [.str y.key,.sl (U.length+mkI b) 0 N N,kI g.ds.length,kI (hd)]))
      (fun x=>x.1<=gp/\x.2.length=N/\∀ r (h:r<x.2.length),x.2[r]=if g.ds[j-1]<fst+r/\fst+r<g.ds[j-1]+1+x.1 then 3 else(ms.set q 1).getD r 0)
      (fun x=>[(124,kI j),(123,kI g.ds.length),(122,.fz 1 (iA g.ds)),(19,.ptr (U.length+rbI b) 1 0 0),(18,.fz 1 (iA g.ds)),(101,kI i),(100,kI p.crew.people.length),(99,.fz 9 (p.crew.people.map persA)),(15,.sl E.length 0 rows.length rows.length),(7,.mp m),(6,kI lst),(5,kI fst),(0,.ptr 3 1 0 0)])
      (fun x=>U++xT b x (.agg [.str y.key,.sl (U.length+mkI b) 0 N N,kI g.ds.length,kI (hd)]))
      (fun x=>x.length=N/\∀ r (h:r<x.length),x[r]=if g.ds[j-1]<fst+r/\fst+r<g.ds[j] then 3 else(ms.set q 1).getD r 0) (0,ms.set q 1) ⟨by simp,by simp[q2],fun r h=>by
       rw[if_neg (by simp only; omega)]; exact(by rw[lam,las h]; rfl)⟩ ?_ ?_ ?_
     .refine Lg ?_ rfl
      simp only[go_sem]
      try rfl
     .rintro ms' ⟨r1,r2⟩
      have hf2:=hf ms' (hd) r1 (by omega) (hday.fill (mk:=3) (a:=g.ds[j-1]) (b:=g.ds[j]) (by decide) (by rw[htk]; exact List.mem_append_left _ (List.mem_take_iff_getElem.2 ⟨j-1,by omega,rfl⟩)) (by rw[htk]; exact List.mem_append_right _ (List.mem_singleton.2 rfl)) (fun v hv ⟨c1,c2⟩=>by
       obtain⟨r,hr,rfl⟩:=List.getElem_of_mem (lbb hv)
       rcases lau (j-1) r with hr2|hr2
       .rcases lau j r with hr3|hr3
        .have:=List.pairwise_iff_getElem.1 hinc j r hj hr hr3; omega
        .have:r=j:=by omega
         subst this; omega
       .rcases lau r (j-1)with hr3|hr3
        .have:=List.pairwise_iff_getElem.1 hinc r (j-1) hr (by omega) hr3; omega
        .have:r=j-1:=by omega
         subst this; omega) (by simp[r1,q2]) (fun r h1=>by
       rw[r2 r h1]
       split
       .rfl
       .simp [List.getD,show r<ms.length by omega]))
      apply zgB;simp only[go_sem]
      repeat refine aqf ?_
      rw[ic j];refine ainv hf2 (Lg ?_ rfl);simp only[go_sem]
      try rfl
     rintro⟨k,ms'⟩ ⟨r0,r1,r2⟩ J4 Q4 hJ4 hQ4;simp only at r0 r1 r2 hJ4 hQ4 |-
     rcases lau k gp with hk|hk
     case inr =>
      have dk:decide ((k:Int)<(gp:Int))=false:=by simp; omega
      have hf4:=hQ4 ms' ⟨r1,fun r h=>by rw[r2 r h]; congr 2; exact propext (by omega)⟩;apply zgB;simp only[go_sem,dk];refine ainv hf4 (Lg ?_ rfl);simp only[go_sem]
      try rfl
     have dk:decide ((k:Int)<(gp:Int))=true:=by simp; omega
     obtain⟨z,hz⟩:∃ z:Nat,g.ds[j-1]+1+(k:Int)-fst=(z:Int):=⟨(g.ds[j-1]+1+(k:Int)-fst).toNat,by omega⟩;have hzN:z<N:=by omega
     have v6:=ApD ms' (i:=z) (by omega);have hset2:(iA ms').set z (kI 3)=iA (ms'.set z 3):=by simp[iA,List.map_set]
     have hf4:=hJ4 (k+1,ms'.set z 3) ⟨by simp only; omega,by simp[r1],fun r h=>by
      simp only at h |-;rw[List.getElem_set]
      split
      .rename_i e; rw[if_pos (by omega)]
      .rename_i e
       rw[r2 r (by simpa using h)]
       congr 2; exact propext (by omega)⟩ (by simp only; omega)
     apply zgB;simp only[go_sem,dk];refine zr [] AaL ?_;simp only[go_sem,e1,v5,hz,v6,hset2,r1,hU3,deskB,planC,xT_mk,xT_rb,xT_smk,xT_srb,gt_at0,st_at0,gt_at,st_at,laa]
     repeat refine aqf ?_
     apply zgB;simp only[go_sem]
     repeat refine aqf ?_
     rw[ic k];refine ainv hf4 (Lg ?_ rfl);simp only[go_sem]
     try rfl
    | false =>
     apply zgB;simp only[go_sem,dj,v1,hq,hset,v4,d0,q2,e1,v5,hgp,dg,hU3,deskB,planC,xT_mk,xT_rb,xT_smk,xT_srb,gt_at0,st_at0,gt_at,st_at,laa]
     repeat refine aqf ?_
     refine AbA (ι:=Nat×List Int) (κ:=List Int) (fun x=>gp-x.1)
      (fun x=>[(159,kI x.1),(158,kI gp),(23,kI 2),(20,kI j),(124,kI j),(123,kI g.ds.length),(122,.fz 1 (iA g.ds)),(19,.ptr (U.length+rbI b) 1 0 0),(18,.fz 1 (iA g.ds)),(101,kI i),(100,kI p.crew.people.length),(99,.fz 9 (p.crew.people.map persA)),(15,.sl E.length 0 rows.length rows.length),(7,.mp m),(6,kI lst),(5,kI fst),(0,.ptr 3 1 0 0)])
      (fun x=>U++xT b x.2 (.agg [.str y.key,.sl (U.length+mkI b) 0 N N,kI g.ds.length,kI (hd+gp)]))
      (fun x=>x.1<=gp/\x.2.length=N/\∀ r (h:r<x.2.length),x.2[r]=if g.ds[j-1]<fst+r/\fst+r<g.ds[j-1]+1+x.1 then 2 else(ms.set q 1).getD r 0)
      (fun x=>[(124,kI j),(123,kI g.ds.length),(122,.fz 1 (iA g.ds)),(19,.ptr (U.length+rbI b) 1 0 0),(18,.fz 1 (iA g.ds)),(101,kI i),(100,kI p.crew.people.length),(99,.fz 9 (p.crew.people.map persA)),(15,.sl E.length 0 rows.length rows.length),(7,.mp m),(6,kI lst),(5,kI fst),(0,.ptr 3 1 0 0)])
      (fun x=>U++xT b x (.agg [.str y.key,.sl (U.length+mkI b) 0 N N,kI g.ds.length,kI (hd+gp)]))
      (fun x=>x.length=N/\∀ r (h:r<x.length),x[r]=if g.ds[j-1]<fst+r/\fst+r<g.ds[j] then 2 else(ms.set q 1).getD r 0) (0,ms.set q 1) ⟨by simp,by simp[q2],fun r h=>by
       rw[if_neg (by simp only; omega)]; exact(by rw[lam,las h]; rfl)⟩ ?_ ?_ ?_
     .refine Lg ?_ rfl
      simp only[go_sem]
      try rfl
     .rintro ms' ⟨r1,r2⟩
      have hf2:=hf ms' (hd+gp) r1 (by omega) (hday.fill (mk:=2) (a:=g.ds[j-1]) (b:=g.ds[j]) (by decide) (by rw[htk]; exact List.mem_append_left _ (List.mem_take_iff_getElem.2 ⟨j-1,by omega,rfl⟩)) (by rw[htk]; exact List.mem_append_right _ (List.mem_singleton.2 rfl)) (fun v hv ⟨c1,c2⟩=>by
       obtain⟨r,hr,rfl⟩:=List.getElem_of_mem (lbb hv)
       rcases lau (j-1) r with hr2|hr2
       .rcases lau j r with hr3|hr3
        .have:=List.pairwise_iff_getElem.1 hinc j r hj hr hr3; omega
        .have:r=j:=by omega
         subst this; omega
       .rcases lau r (j-1)with hr3|hr3
        .have:=List.pairwise_iff_getElem.1 hinc r (j-1) hr (by omega) hr3; omega
        .have:r=j-1:=by omega
         subst this; omega) (by simp[r1,q2]) (fun r h1=>by
       rw[r2 r h1]
       split
       .rfl
       .simp [List.getD,show r<ms.length by omega]))
      apply zgB;simp only[go_sem]
      repeat refine aqf ?_
      rw[ic j];refine ainv hf2 (Lg ?_ rfl);simp only[go_sem]
      try rfl
     rintro⟨k,ms'⟩ ⟨r0,r1,r2⟩ J4 Q4 hJ4 hQ4;simp only at r0 r1 r2 hJ4 hQ4 |-
     rcases lau k gp with hk|hk
     case inr =>
      have dk:decide ((k:Int)<(gp:Int))=false:=by simp; omega
      have hf4:=hQ4 ms' ⟨r1,fun r h=>by rw[r2 r h]; congr 2; exact propext (by omega)⟩;apply zgB;simp only[go_sem,dk];refine ainv hf4 (Lg ?_ rfl);simp only[go_sem]
      try rfl
     have dk:decide ((k:Int)<(gp:Int))=true:=by simp; omega
     obtain⟨z,hz⟩:∃ z:Nat,g.ds[j-1]+1+(k:Int)-fst=(z:Int):=⟨(g.ds[j-1]+1+(k:Int)-fst).toNat,by omega⟩;have hzN:z<N:=by omega
     have v6:=ApD ms' (i:=z) (by omega);have hset2:(iA ms').set z (kI 2)=iA (ms'.set z 2):=by simp[iA,List.map_set]
     have hf4:=hJ4 (k+1,ms'.set z 2) ⟨by simp only; omega,by simp[r1],fun r h=>by
      simp only at h |-;rw[List.getElem_set]
      split
      .rename_i e; rw[if_pos (by omega)]
      .rename_i e
       rw[r2 r (by simpa using h)]
       congr 2; exact propext (by omega)⟩ (by simp only; omega)
     apply zgB;simp only[go_sem,dk];refine zr [] AaL ?_;simp only[go_sem,e1,v5,hz,v6,hset2,r1,hU3,deskB,planC,xT_mk,xT_rb,xT_smk,xT_srb,gt_at0,st_at0,gt_at,st_at,laa]
     repeat refine aqf ?_
     apply zgB;simp only[go_sem]
     repeat refine aqf ?_
     rw[ic k];refine ainv hf4 (Lg ?_ rfl);simp only[go_sem]
     try rfl
 rintro⟨i,gs,S0⟩ ⟨g1,g2⟩ J Q hJ hQ;simp only at g1 g2 hJ hQ |-
 rcases lau i l.length with hi|hi
 case inr =>
  have di:decide ((i:Int)<(l.length:Int))=false:=by simp; omega
  rw[laf (by omega)]at g2;have hfin:=hQ (gs,S0) g2;apply zgB;simp only[go_sem,di];refine ainv hfin (Lg ?_ rfl);simp only[go_sem]
  try rfl
 have di:decide ((i:Int)<(l.length:Int))=true:=by simp; omega
 have p1:=AbZ l hi;have hsub:∀ x∈l[i].Lb,x∈p.strips.map (·.scene):=fun x hx=>okb.Lb.2 x (List.mem_flatMap.2 ⟨_,lae hi,hx⟩)
 have htk:(l.take (i+1)).flatMap (evD p)=(l.take i).flatMap (evD p)++evD p l[i]:=by
  rw[lag hi,List.flatMap_append]; simp
 have hfin:=fun(gs':List Wg) (S':LB) (hw:WkOk ((l.take (i+1)).flatMap (evD p)) gs' S')=>hJ (i+1,gs',S') ⟨by simp only; omega,hw⟩ (by simp only; omega)
 rw[htk]at hfin;have hb9:=(okb.days _ (lae hi)).2.2.2;simp only at hfin;clear hJ hQ htk;have hpre:((l.take i).flatMap (evD p)).length<=36*10:=by
  refine Nat.le_trans (AjK 36 (evD p) fun d hd=>?_) (Nat.mul_le_mul_left 36 (by have:=okb.few; simp; omega));have hd:=lbb hd;refine Nat.le_trans (AjK 4 (evS p d.day) fun x hx=>?_) (Nat.mul_le_mul_left 4 (okb.days d hd).2.2.2);rw[evS,laa];exact AcZ ok (AcF (okb.Lb.2 x (List.mem_flatMap.2 ⟨_,hd,hx⟩))).1
 generalize (l.take i).flatMap (evD p)=pre at g2 hfin hpre |-;have dayB:0<=l[i].day/\l[i].day<=100:=⟨(okb.days _ (lae hi)).1,(okb.days _ (lae hi)).2.1⟩;generalize l[i]=d at *;apply zgB;simp only[go_sem,di,p1,bdayA,strA,gt_at0,st_at0,gt_at,st_at,lab,laa]
 repeat refine aqf ?_
 have hw0:=g2.app [.arr 2 [.agg [kI d.day,.fz 1 (d.Lb.map .str)]]];have hbx0:(S0++[Blk.arr 2 [.agg [kI d.day,.fz 1 (d.Lb.map .str)]]])[S0.length]? = some (.arr 2 [.agg [kI d.day,.fz 1 (d.Lb.map .str)]]):=by simp
 have hne0:∀ g∈gs,g.at'≠S0.length:=fun g hg=>by have:=g2.lt hg; omega
 generalize S0++[Blk.arr 2 [.agg [kI d.day,.fz 1 (d.Lb.map .str)]]]=S1 at hw0 hbx0 |-;generalize S0.length=bx at hbx0 hne0 |-;clear g2 S0 p1 q0 q9 hfst hlst;obtain⟨box,hbox⟩:∃ b,b=Blk.arr 2 [.agg [kI d.day,.fz 1 (d.Lb.map .str)]]:=⟨_,rfl⟩;rw[<- hbox]at hbx0;refine AbA (ι:=Nat×List Wg×LB) (κ:=List Wg×LB) (fun x=>d.Lb.length-x.1)
  (fun x=>[(54,kI x.1),(53,kI d.Lb.length),(52,.fz 1 (d.Lb.map .str)),(9,.ptr (D.length+(bx+1)) 1 0 0),(47,kI i),(46,kI l.length),(45,.fz 2 (l.map bdayA)),(7,.mp D.length),(6,kI lst),(5,kI fst),(0,.ptr 3 1 0 0)]) (fun x=>D++(.mp (wM D.length x.2.1)::x.2.2))
  (fun x=>x.1<=d.Lb.length/\WkOk (pre++(d.Lb.take x.1).flatMap (evS p d.day)) x.2.1 x.2.2/\x.2.2[bx]? = some box/\∀ g∈x.2.1,g.at'≠bx)
  (fun x=>[(47,kI i),(46,kI l.length),(45,.fz 2 (l.map bdayA)),(7,.mp D.length),(6,kI lst),(5,kI fst),(0,.ptr 3 1 0 0)]) (fun x=>D++(.mp (wM D.length x.1)::x.2)) (fun x=>WkOk (pre++evD p d) x.1 x.2) (0,gs,S1) ⟨by simp,by simpa using hw0,hbx0,hne0⟩ ?_ ?_ ?_
 .refine Lg ?_ rfl
  simp only[go_sem]
  try rfl
 .rintro ⟨gs',S'⟩ hw
  simp only at hw |-;apply zgB;simp only[go_sem]
  repeat refine aqf ?_
  rw[ic i];refine ainv (hfin gs' S' hw) (Lg ?_ rfl);simp only[go_sem]
  try rfl
 clear hw0 hbx0 hne0;rintro⟨j,gs,S1⟩ ⟨g1,g2,g3,g4⟩ J Q hJ hQ;simp only at g1 g2 g3 g4 hJ hQ |-
 rcases lau j d.Lb.length with hj|hj
 case inr =>
  have dj:decide ((j:Int)<(d.Lb.length:Int))=false:=by simp; omega
  rw[laf (by omega)]at g2;have hf2:=hQ (gs,S1) g2;apply zgB;simp only[go_sem,dj];refine ainv hf2 (Lg ?_ rfl);simp only[go_sem]
  try rfl
 have dj:decide ((j:Int)<(d.Lb.length:Int))=true:=by simp; omega
 have p1:=AdU d.Lb hj;have hx:=hst _ (hsub _ (lae hj));have hpf:=AcZ ok (AcF (hsub _ (lae hj))).1;have htk:(d.Lb.take (j+1)).flatMap (evS p d.day)=(d.Lb.take j).flatMap (evS p d.day)++evS p d.day d.Lb[j]:=by
  rw[lag hj,List.flatMap_append]; simp
 have hf2:=fun(gs':List Wg) (S':LB) (hw:WkOk (pre++(d.Lb.take (j+1)).flatMap (evS p d.day)) gs' S') (hb:S'[bx]? = some box) (hn:∀ g∈gs',g.at'≠bx)=>hJ (j+1,gs',S') ⟨by simp only; omega,hw,hb,hn⟩ (by simp only; omega)
 rw[htk,<- lab]at hf2;simp only at hf2;clear hJ hQ htk;have hpre2:(pre++(d.Lb.take j).flatMap (evS p d.day)).length<=400:=by
  have h1:=AjK 4 (evS p d.day) (l:=d.Lb.take j) (fun x hx=>by
   rw[evS,laa];exact AcZ ok (AcF (hsub x (lbb hx))).1)
  have h2:(d.Lb.take j).length<=9:=by simp; omega
  rw[lat];omega
 generalize pre++(d.Lb.take j).flatMap (evS p d.day)=pre2 at g2 hf2 hpre2 |-;generalize d.Lb[j]=x at *;rw[show evS p d.day x=(stOf p x).people.map (fun k=>(d.day,k)) from rfl]at hf2;generalize stOf p x=st at *;simp only[stripA,strA]at hx;apply zgB;simp only[go_sem,dj,p1,gt_at0,st_at0,gt_at,st_at,lab,laa]
 repeat refine aqf ?_
 refine zaH hg (hx (.mp (wM D.length gs)::S1)) ?_;rintro _ _ ⟨rfl,V,rfl⟩;have g5:=g2.app V;have g6:(S1++V)[bx]? = some box:=by rw[lao (List.getElem?_eq_some_iff.1 g3).1]; exact g3
 apply zgB;simp only[go_sem,gt_at0,st_at0,gt_at,st_at,lab,laa];generalize S1++V=S2 at g5 g6 |-;clear g2 g3 S1 V;refine AbA (ι:=Nat×List Wg×LB) (κ:=List Wg×LB) (fun x=>st.people.length-x.1)
  (fun x=>[(63,kI x.1),(62,kI st.people.length),(61,.fz 1 (st.people.map .str)),(54,kI j),(53,kI d.Lb.length),(52,.fz 1 (d.Lb.map .str)),(9,.ptr (D.length+(bx+1)) 1 0 0),(47,kI i),(46,kI l.length),(45,.fz 2 (l.map bdayA)),(7,.mp D.length),(6,kI lst),(5,kI fst),(0,.ptr 3 1 0 0)]) (fun x=>D++(.mp (wM D.length x.2.1)::x.2.2))
  (fun x=>x.1<=st.people.length/\WkOk (pre2++(st.people.take x.1).map (fun k=>(d.day,k))) x.2.1 x.2.2/\x.2.2[bx]? = some box/\∀ g∈x.2.1,g.at'≠bx)
  (fun x=>[(54,kI j),(53,kI d.Lb.length),(52,.fz 1 (d.Lb.map .str)),(9,.ptr (D.length+(bx+1)) 1 0 0),(47,kI i),(46,kI l.length),(45,.fz 2 (l.map bdayA)),(7,.mp D.length),(6,kI lst),(5,kI fst),(0,.ptr 3 1 0 0)]) (fun x=>D++(.mp (wM D.length x.1)::x.2)) (fun x=>WkOk (pre2++st.people.map (fun k=>(d.day,k))) x.1 x.2/\x.2[bx]? = some box/\∀ g∈x.1,g.at'≠bx) (0,gs,S2) ⟨by simp,by simpa using g5,g6,g4⟩ ?_ ?_ ?_
 .refine Lg ?_ rfl
  simp only[go_sem]
  try rfl
 .rintro ⟨gs',S'⟩ ⟨hw,hb,hn⟩
  simp only at hw hb hn |-;apply zgB;simp only[go_sem]
  repeat refine aqf ?_
  rw[ic j];refine ainv (hf2 gs' S' hw hb hn) (Lg ?_ rfl);simp only[go_sem]
  try rfl
 clear g4 g5 g6 S2 gs p1 hf2 hx;rintro⟨q,gs,S2⟩ ⟨g1,g2,g3,g4⟩ J Q hJ hQ;simp only at g1 g2 g3 g4 hJ hQ |-
 rcases lau q st.people.length with hq|hq
 case inr =>
  have dq:decide ((q:Int)<(st.people.length:Int))=false:=by simp; omega
  rw[laf (by omega)]at g2;have hf3:=hQ (gs,S2) ⟨g2,g3,g4⟩;apply zgB;simp only[go_sem,dq];refine ainv hf3 (Lg ?_ rfl);simp only[go_sem]
  try rfl
 have dq:decide ((q:Int)<(st.people.length:Int))=true:=by simp; omega
 have p1:=AdU st.people hq;have htk:(st.people.take (q+1)).map (fun k=>(d.day,k))=(st.people.take q).map (fun k=>(d.day,k))++[(d.day,st.people[q])]:=by
  rw[lag hq,lav]; rfl
 have hf3:=fun(gs':List Wg) (S':LB) (hw:WkOk (pre2++(st.people.take (q+1)).map (fun k=>(d.day,k))) gs' S') (hb:S'[bx]? = some box) (hn:∀ g∈gs',g.at'≠bx)=>hJ (q+1,gs',S') ⟨by simp only; omega,hw,hb,hn⟩ (by simp only; omega)
 rw[htk,<- lab]at hf3;simp only at hf3;clear hJ hQ htk;have hpre3:(pre2++(st.people.take q).map (fun k=>(d.day,k))).length<=500:=by
  rw[lat,laa,List.length_take]; omega
 have hdl:=fun k=>AsP (pre2++(st.people.take q).map (fun k=>(d.day,k))) k
 generalize pre2++(st.people.take q).map (fun k=>(d.day,k))=ev at g2 hf3 hpre3 hdl |-;generalize st.people[q]=k at *;have hbx:S2.getD bx .dead=box:=by rw[lam,g3]; rfl
 have hbl:=(List.getElem?_eq_some_iff.1 g3).1
 rcases AyC k D.length gs 0 with⟨m1,mne⟩|⟨n,g,m1,m2,rfl⟩
 .have hf4:=hf3 _ _ (g2.push mne d.day) (by rw[lao hbl]; exact g3) (fun g hg=>by
   rcases List.mem_append.1 hg with hg|hg
   .exact g4 g hg
   .rw [List.mem_singleton.1 hg]; simp only; omega)
  rw[A5Z]at hf4;simp only[lan,lbm,lbc,iA,lak,List.map_nil]at hf4;subst hbox;apply zgB;simp only[go_sem,dq,p1,m1,gt_at0,st_at0,gt_at,st_at,lab,laa]
  repeat refine aqf ?_
  refine zr [] AaL ?_;simp only[go_sem,gt_at0,st_at0,gt_at,st_at,lab,laa];apply zgB;simp only[go_sem,m1,hbx,gt_at0,st_at0,gt_at,st_at,lab,laa]
  repeat refine aqi ?_
  rw[ic q];refine ainv hf4 (Lg ?_ (by first|rfl|simp));simp only[go_sem]
  try rfl
 .have hgm:=laj m2
  have hlt:=g2.lt hgm;have b0:=g2.blk g hgm;have hds:=(g2.ds g hgm).2;have hdl2:g.ds.length<=500:=by rw[(g2.ds g hgm).1]; exact Nat.le_trans (hdl _) hpre3
  have hdp:=List.length_pos_iff.2 hds;have bg:S2.getD g.at' .dead=.arr 1 (iA g.ds):=by rw[lam,b0]; rfl
  have dz:((g.ds.length:Int)==0)=false:=beq_eq_false_iff_ne.2 (by omega);have e1:(g.ds.length:Int)-1=((g.ds.length-1:Nat):Int):=by omega
  have hlast:(iA g.ds).getD (g.ds.length-1) .any=kI (g.ds.getLast hds):=by
   rw[List.getLast_eq_getElem]; simp[List.getD,show g.ds.length-1<g.ds.length by omega]
  have hgl:g.ds.getLast? = some (g.ds.getLast hds):=List.getLast?_eq_some_getLast hds;generalize g.ds.getLast hds=la at hlast hgl;subst hbox
  by_cases hla:la=d.day
  .have hf4:=hf3 _ _ (g2.skip hgm (hgl.trans (by rw[hla]))) g3 g4
   have dn:(la != d.day)=false:=by simp[hla]
   apply zgB;simp only[go_sem,dq,p1,m1,gt_at0,st_at0,gt_at,st_at,lab,laa]
   repeat refine aqf ?_
   refine zr [] AaL ?_;simp only[go_sem,dz,bg,e1,hlast,dn,hbx,gt_at0,st_at0,gt_at,st_at,lab,laa]
   repeat refine aqi ?_
   apply zgB;simp only[go_sem]
   repeat refine aqi ?_
   rw[ic q];refine ainv hf4 (Lg ?_ rfl);simp only[go_sem]
   try rfl
  .have dn:(la != d.day)=true:=by simp[hla]
   have hf4:=hf3 _ _ (g2.put m2 (d:=d.day) (by rw[hgl]; simpa using hla)) (by rw[lba (g4 g hgm)]; exact g3) (fun y hy=>by
    rcases List.mem_or_eq_of_mem_set hy with hy|rfl
    .exact g4 y hy
    .exact g4 g hgm)
   rw[A8Y]at hf4;apply zgB;simp only[go_sem,dq,p1,m1,gt_at0,st_at0,gt_at,st_at,lab,laa]
   repeat refine aqf ?_
   refine zr [] AaL ?_;simp only[go_sem,dz,bg,e1,hlast,dn,hbx,gt_at0,st_at0,gt_at,st_at,lab,laa]
   repeat refine aqi ?_
   apply zgB;simp only[go_sem,m1,bg,hbx,gt_at0,st_at0,gt_at,st_at,lab,laa]
   repeat refine aqi ?_
   simp only[lat,lan,lbm,iA,lav,lak,List.map_nil,lbc]at hf4 |-;rw[ic q];refine ainv hf4 (Lg ?_ (by first|rfl|simp));simp only[go_sem]
   try rfl
