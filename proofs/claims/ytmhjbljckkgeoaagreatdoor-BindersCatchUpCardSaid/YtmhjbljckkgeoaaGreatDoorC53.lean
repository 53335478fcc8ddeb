/- Binders that are drawn. -/
import Derived.Test.YtmhjbljckkgeoaaGreatDoorC52
import Derived.Test.YtmhjbljckkgeoaaGreatDoorC19
set_option maxRecDepth 100000
set_option maxHeartbeats 8000000
set_option linter.all false
namespace Go.Proofs.YtmhjbljckkgeoaaGreatDoor
open Av RowKit Proofs.Tryz
theorem BuZ{l:List Le'}(h:BinderOk l):BdIn l:=⟨by have:=h.few; omega,fun f hf=>by
 have hk:=h.all f hf;have h1:=AbW hk.name;have h2:f.first.length<=8:=by
  rcases hk.first with e|e
  .rw [e]; decide
  .exact number_len e
 exact⟨by omega,by omega,by have:=hk.Lb.few; omega,fun s hs=>by have:=(hk.Lb.all s hs).len; omega⟩⟩
def BNL:List LU:=[[48,66],[49],[49,66],[50,45,52],[53],[53,66,45,54],[55]]
theorem BiE:∀ x∈BNL,x.length<=100:=by decide
def BFL:List LU:=[[],[],[49],[50,66]]
theorem BiF:∀ x∈BFL,x.length<=100:=by decide
def BdS(l:List Le'):Prop:=∀ f∈l,f.name.length<=100/\f.first.length<=100/\f.Lb.length<=10/\∀ s∈f.Lb,s.length<=100
theorem A9T{S:Std}(hS:LibR S)(L:List Int)(k:Int)(h3:0<=k)(h4:k<=200000) :
  McH prog S 5 2 (str L k) [] (fun r s=>∃ (l:List Le') (k':Int),r=.fz 4 (l.map leA)/\BdIn l/\s=str L k'/\k<=k'/\k'<=k+270000):=by
 refine zdIF func5 rfl fun h ρ w hg=>?_
 simp only[go_sem];refine zm 0 (AcW L k 3 (by omega) (by omega) (by omega) (by omega)) ?_;rintro _ _ ⟨⟨b,rfl⟩,rfl⟩
 cases b with
 | true =>
  apply zgF;simp only[go_sem];refine zmH 0 hg (agg:=str L (k+1)) (AzV hS L (k+1) (by omega) (by omega)) ?_;rintro _ _ ⟨d,k',rfl,hd,rfl,hk1,hk2⟩;apply zgF;simp only[go_sem,drA];exact AbF [.tmp 2] rfl [_] ⟨by simp only[go_sem,sideIs],trivial⟩ ⟨_,_,rfl,⟨d.La,k',rfl,BuZ hd.ok.binder,rfl,by omega,by omega⟩,rfl,rfl⟩
 | false =>
  apply zgF;simp only[go_sem];refine AaC (ι:=Nat×Int×List Le') (fun y=>7-y.1)
   (fun y=>[(15,.int .i64 (y.1:Int)),(14,.int .i64 7),(13,.fz 1 (BNL.map .str)),(3,.sl 1 0 y.2.2.length y.2.2.length),(0,.ptr 0 1 0 0)])
   (fun y=>[.arr 2 [str L y.2.1],.arr 4 (y.2.2.map leA)]) (fun y=>y.1<=7/\y.2.2.length<=y.1/\BdS y.2.2/\k<=y.2.1/\y.2.1<=k+1+30*(y.1:Int)) (0,k+1,[]) ⟨by omega,by simp,fun f hf=>by simp at hf,by simp only; omega,by simp only; omega⟩ ?_ ?_
  .refine Shift.trans (Lv 3 4 rfl) (Lu ?_ rfl)
   simp only[go_sem];rfl
  .rintro ⟨i,k',l⟩ ⟨g1,g2,g3,g4,g5⟩ J hJ
   simp only at g1 g2 g3 g4 g5 hJ |-
   by_cases gi:i<7
   .have di:decide ((i:Int)<7)=true:=by rw[laj]; omega
    have hb:i<BNL.length:=gi;have hgi:List.getD (BNL.map AV.str) i .any=.str BNL[i]:=by simp[List.getD,hb]
    have hbl:((BNL.map AV.str).length:Int)=7:=rfl;have hbn:(BNL.map AV.str).length=7:=rfl;apply zgF;simp only[go_sem,di,hgi,hbn]
    repeat refine aqb ?_
    refine zm 0 (AcW L k' 2 (by omega) (by omega) (by omega) (by omega)) ?_;rintro _ _ ⟨⟨b,rfl⟩,rfl⟩
    cases b with
    | false =>
     have hfin:=hJ (i+1,k'+1,l) ⟨by simp only; omega,by simp only; omega,g3,by simp only; omega,by simp only; omega⟩ (by simp only; omega);simp only at hfin;apply zgF;simp only[go_sem]
     repeat refine aqb ?_
     rw[ic i];refine ainv hfin (Ls ?_);simp only[go_sem]
    | true =>
     apply zgF;simp only[go_sem];refine zm 0 (AgV L (k'+1) 1 3 (by omega) (by omega) (by omega) (by omega) (by omega)) ?_;rintro _ _ ⟨⟨v,rfl,v1,v2⟩,rfl⟩;have ho:=AkY L (k'+1+1) BFL (by decide) (by decide) (by omega) (by omega);apply zgF;simp only[go_sem];refine zm 0 (ho) ?_;rintro _ _ ⟨⟨x,hx,rfl⟩,rfl⟩;apply zgF;simp only[go_sem];have hli:=AzW L (k'+1+1+1) (.arr 4 (l.map leA)) 3 (by omega) (by omega) (by omega);refine za (hli) ?_;rintro _ _ ⟨ls,k2,⟨lg1,lg2⟩,hk1,hk2,rfl,rfl⟩;apply zgN;simp only[go_sem,laa]
     repeat refine aqb ?_
     have hx1:=BiF x hx;have hn1:=BiE BNL[i] (lac hb);generalize BNL[i]=n at *;have hfin:=hJ (i+1,k2,l++[⟨n,v,x,ls++[[120]]⟩]) ⟨by simp only; omega,by simp; omega,fun f hf=>by
      rcases List.mem_append.1 hf with hf|hf
      .exact g3 f hf
      .rw [List.mem_singleton.1 hf]
       exact⟨hn1,hx1,by simp; omega,fun s hs=>by
        rcases List.mem_append.1 hs with hs|hs
        .exact lg2 s hs
        .rw [List.mem_singleton.1 hs]; decide⟩,by simp only; omega,by simp only; omega⟩ (by simp only; omega)
     rw[ic i];simp only[lah,lal,laq]at hfin;have hlx:(List.map AV.str ls++[AV.str [120]]).length=ls.length+1:=by simp
     have htx:List.take (ls.length+1) (List.map AV.str ls++[AV.str [120]])=List.map AV.str ls++[AV.str [120]]:=lae (by simp);have hmx:List.map AV.str ls++[AV.str [120]]=(ls++[[120]]).map .str:=by simp
     have hfx:(flat (List.map AV.str ls++[AV.str [120]])).all Av.frozen=true:=by rw[hmx]; exact AaD _
     have hq:frzC 2 1 (List.map AV.str ls++[AV.str [120]]) (.agg [.str n,.int .i64 v,.str x,.sl 2 0 (ls.length+1) (ls.length+1)])=leA ⟨n,v,x,ls++[[120]]⟩:=by
      simp only[frzC,frz1,lak,lao,hlx,htx,lbu,lay,decide_true,lab,lbh,lbf,cond_true];rw[hmx];rfl
     have hq3:∀ M:LY,frzC 2 1 M (.agg [.str n,.int .i64 v,.str x,.sl 2 0 (ls.length+1) (ls.length+1)])=leA ⟨n,v,x,ls++[[120]]⟩->(List.map leA l++[AV.agg [.str n,.int .i64 v,.str x,.sl 2 0 (ls.length+1) (ls.length+1)]]).map (frzC 2 1 M)=(l++[(⟨n,v,x,ls++[[120]]⟩:Le')]).map leA:=fun M hM=>by
      rw[laf,AcZ (fun _=>rfl) l,laf,lak,hM];rfl
     have hq4:=hq3 _ hq;have hlo:=AcK 2 (l++[(⟨n,v,x,ls++[[120]]⟩:Le')]);generalize List.map AV.str ls++[AV.str [120]]=M at *;refine ainv hfin (Shift.trans (Ls (e':=[(15,.int .i64 ((i+1:Nat):Int)),(14,.int .i64 7),(13,.fz 1 (BNL.map .str)),(3,.sl 1 0 (l.length+1) (l.length+1)),(0,.ptr 0 1 0 0)]) (by simp only[go_sem])) (Shift.trans (Shift.frz 2 (es:=1) (l:=M) rfl hfx) (Shift.trans (Lu (e':=[(15,.int .i64 ((i+1:Nat):Int)),(14,.int .i64 7),(13,.fz 1 (BNL.map .str)),(3,.sl 1 0 (l.length+1) (l.length+1)),(0,.ptr 0 1 0 0)]) (s':=[.arr 2 [str L k2],.arr 4 ((l++[(⟨n,v,x,ls++[[120]]⟩:Le')]).map leA),.dead,.arr 1 [.str [120]],.arr 4 [leA ⟨n,v,x,ls++[[120]]⟩]]) ?_ ?_) (Shift.low 2 (by simp) (by simp) ?_ ?_))))
     .simp only[frzE,frz,frz1,go_sem]
     .show [Blk.arr 2 [str L k2],.arr 4 ((List.map leA l++[_]).map (frzC 2 1 M)),.dead,.arr 1 [.str [120]],.arr 4 [frzC 2 1 M _]]=_
      rw[hq4,hq]
     .show (_&&(lowB 2 (.arr 4 _)&&true))=true
      rw[lau,lag];exact⟨rfl,hlo⟩
     .simp only[go_sem]
   .have di:decide ((i:Int)<7)=false:=by rw[lai]; omega
    have hfr:(flat (l.map leA)).all Av.frozen=true:=AdS l;apply zgF;simp only[go_sem,di];refine zm 0 (AcW L k' 6 (by omega) (by omega) (by omega) (by omega)) ?_;rintro _ _ ⟨⟨b,rfl⟩,rfl⟩;refine AWp.shift (Shift.trans (Shift.freeze 3 (id:=1) rfl rfl (by simp) (lab _) hfr) (Lu (e':=[(37,.bool b),(3,.fz 4 (l.map leA)),(0,.ptr 0 1 0 0)]) (s':=[.arr 2 [str L (k'+1)],.dead]) ?_ rfl)) ?_
    .simp only[go_sem]
     rw[lae (by simp)]
    cases b with
    | false =>
     apply zgF;simp only[go_sem];exact aret [2] rfl ⟨_,_,rfl,⟨l,k'+1,rfl,⟨by omega,fun f hf=>by obtain⟨a1,a2,a3,a4⟩:=g3 f hf; exact⟨by omega,by omega,by omega,fun s hs=>by have:=a4 s hs; omega⟩⟩,rfl,by omega,by omega⟩,rfl,rfl⟩
    | true =>
     apply zgF;simp only[go_sem];refine zm 0 (A9S L (k'+1) l ⟨by omega,fun f hf=>by obtain⟨a1,a2,a3,a4⟩:=g3 f hf; exact⟨by omega,by omega,by omega,fun s hs=>by have:=a4 s hs; omega⟩⟩ (by omega) (by omega)) ?_;rintro _ _ ⟨l',k2,rfl,hl',rfl,hk1,hk2⟩;apply zgF;simp only[go_sem];exact aret [2] rfl ⟨_,_,rfl,⟨l',k2,rfl,hl',rfl,by omega,by omega⟩,rfl,rfl⟩
theorem PcH.nil1{P:Program}{g:Std}{f:FuncId}{es:Nat}{r:LY}{post:AV->Prop}(hc:PcH P g f (.fz es []::r) post):PcH P g f (.raw (.slice none 0 0)::r) post:=by
 refine⟨hc.1,fun h w vs hg hm rl=>hc.2 h w vs hg hm ?_⟩
 cases rl with
 | cons r1 rl =>
  have:_=Value.slice none 0 0:=inv_raw (ρ:=fun _=>none) (sto:=[]) (r1.thaw (fun _ _ _ x=>x) (fl:=false));subst this;exact .cons (.fznil es) rl
theorem flat_sub0{l nl:List Le'}:(sentL l nl).Sublist nl:=List.filter_sublist
theorem BiG{St:Std}(hS:LibOk St)(l:List Le')(b:Dr)(hb:DrIn b)(ol:BinderOk l)(ob:DraftOk b):PcH prog St 9 [.fz 4 (l.map leA),drA b] (· = .tup [sdA b.no (sentL l b.La) (thrL l b.La),.int .i64 0]):=by
 have h0:=AbV hS l (by have:=ol.few; omega) (fun f hf=>(ol.all f hf).bound);have h1:=AhO hS b hb;have h2:=BtT l (by have:=ol.few; omega) ol.apart (fun f hf=>(ol.all f hf).leafIn) b (by have:=ob.binder.few; omega) ob.binder.apart (fun f hf=>(ob.binder.all f hf).leafIn);simp only[drA]at h1 h2 |-;have d0:((0:Int) != 0)=false:=by decide
 refine zqIB func9 rfl fun h ρ w hg=>?_
 simp only[go_sem];refine AeK hg h0 rfl rfl rfl ?_;rintro _ ⟨m,rfl,hm⟩;obtain rfl:=hm.2 ol;apply zgF;simp only[go_sem,d0];refine AeK hg h1 rfl rfl rfl ?_;rintro _ ⟨m,rfl,hm⟩;obtain rfl:=hm.2 ob;apply zgF;simp only[go_sem,d0];refine zpF (h2) ?_;simp only[go_sem];exact AbF [.cell 4 39,.tmp 5] rfl [_,_] ⟨by simp only[go_sem,sideIs,sdA],rfl,trivial⟩ ⟨rfl,rfl⟩
theorem AzX{S:Std}(hS:LibR S)(L:List Int):PcH prog S 3 [.fz 1 (L.map (.int .i64))] (· = .bool true):=by
 have d0:((0:Int) != 0)=false:=by decide
 refine zqIF func3 rfl fun h ρ w hg=>?_
 simp only[go_sem];refine zmH 0 hg (agg:=str L 0) (A9T hS L 0 (by omega) (by omega)) ?_;rintro _ _ ⟨l,k',rfl,hl,rfl,hk1,hk2⟩;have hbf:=ApR hS.ok l (by have:=hl.n; omega) (fun f hf=>by obtain⟨a1,a2,a3,a4⟩:=hl.all f hf; exact⟨by omega,by omega,by omega,fun s hs=>by have:=a4 s hs; omega⟩);apply zgF;simp only[go_sem];refine zmH 0 hg (agg:=str L k') (AzV hS L k' (by omega) (by omega)) ?_;rintro _ _ ⟨d,k2,rfl,hd,rfl,hk3,hk4⟩;have hcd:=AhO hS.ok d hd.inn;have step:∀ B:List Le',BinderOk B->PcH prog S 9 [.fz 4 (B.map leA),drA d] (· = .tup [sdA d.no (sentL B d.La) (thrL B d.La),.int .i64 0])/\PcH prog S 10 [.fz 4 (B.map leA),sdA d.no (sentL B d.La) (thrL B d.La)] (· = .tup [.fz 4 (d.La.map leA),.int .i64 0]):=fun B hB=>by
  have hsB:=hd.ok.binder.sub (flat_sub0 (l:=B));have hthr:(thrL B d.La).Nodup:=by
   unfold thrL;exact hB.apart.sublist (List.filter_sublist.map _)
  have hthl:(thrL B d.La).length<=100000:=by
   have h1:=List.length_filter_le (isThr d.La) B;have h2:=hB.few;unfold thrL;rw[laa];omega
  exact⟨BiG hS.ok B d hd.inn hB hd.ok,A8U hS.ok B _ _ d.no _ hB hsB hd.ok.binder hthl (fun n hn=>by
   obtain⟨f,h1,h2,_⟩:=thr_mem.1 hn;exact⟨f,h1,h2⟩) (fun n hn f hf e=>by
   obtain⟨_,_,_,h3⟩:=thr_mem.1 hn;exact h3 f (flat_sub0.subset hf) e) hthr (BfW hB.apart hd.ok.binder.apart)⟩
 have hsame:=AuP d.La (by have:=hd.ok.binder.few; omega) (fun f hf=>(hd.ok.binder.all f hf).leafIn);have hokD:=hd.ok;apply zgF;simp only[drA,sdA]at hcd step |-;simp only[go_sem];refine AeK hg hcd rfl rfl rfl ?_;rintro _ ⟨m,rfl,hm⟩;obtain rfl:=hm.2 hokD;apply zgF;simp only[go_sem,d0];refine AeK hg hbf rfl rfl rfl ?_;rintro _ ⟨m,rfl,hm⟩
 by_cases m0:m=0
 .have hB:=hm.1 m0
  subst m0;obtain⟨hct,hin⟩:=step l hB;apply zgF;simp only[go_sem,d0];refine zqF hg (hct) ?_;simp only[go_sem];refine zqF hg (hin) ?_;simp only[go_sem,d0];refine zqF hg (AnL hS.ok) ?_;simp only[go_sem,d0];refine zpF (hsame) ?_;simp only[go_sem];exact zt [2]
 .have dm:(m != 0)=true:=by simpa using m0
  obtain⟨hct,hin⟩:=step [] ⟨by simp,fun f hf=>by simp at hf,fun i h=>by simp at h⟩;have hct:=PcH.nil1 (es:=4) hct;have hin:=PcH.nil1 (es:=4) hin;apply zgF;simp only[go_sem,dm];refine zqF hg (hct) ?_;simp only[go_sem];refine zqF hg (hin) ?_;simp only[go_sem,d0];refine zqF hg (AnL hS.ok) ?_;simp only[go_sem,d0];refine zpF (hsame) ?_;simp only[go_sem];exact zt [2]
end Go.Proofs.YtmhjbljckkgeoaaGreatDoor
namespace Go.Proofs.YtmhjbljckkgeoaaGreatDoor.bindersCatchUp
open Av RowKit ChangeShapes WideShapes ChangeAt Proofs.Tryz
set_option maxRecDepth 100000 in
theorem lifted(os:Os)(started:os.Started)(H:Type)(enc:TypeId×Value->H) :
  ReturnsInHanded {} Tryz.checked os 3 .any (fun w args=>(Rows.bindersCatchUpSpec.pre enc prog Tryz.f3 Rows.bindersCatchUpRow.domain false w args/\laidMetH prog Rows.bindersCatchUpRow.laid w)/\sizedMet enc prog Tryz.f3 (OpenSpec.ofChange Rows.bindersCatchUpSpec) false w args)
   (Rows.bindersCatchUpSpec.post enc prog Tryz.f3 false true false false):=by
 refine ApW (C:=Tryz.checked) (X:=fun w _=>laidMetH prog Rows.bindersCatchUpRow.laid w) (fun _ _ _ hh h=>h.of_heap hh) own started (by kernel_rfl) func3
  (ChangeSpec.witness_shaped (enc:=enc) (C:=Tryz.checked) (os:=os) (X:=fun w _=>laidMetH prog Rows.bindersCatchUpRow.laid w) false (World.laidAll prog os Rows.bindersCatchUpRow.laid) #[.slice none 0 0] 8 (World.laidAll_os _ _ _)
   (World.shaped_of_ZipB (by kernel_rfl) (by kernel_rfl)) (by kernel_rfl) (by kernel_rfl) (by kernel_rfl)
   (by rw[MakeChecks.laidMetH_plain _ _ _ (by kernel_rfl)]; exact laidMet_laidAll _ (by kernel_rfl) (by kernel_rfl))) ?_
 intro W base args ds gs before hval0 hW hsh hL;have hval:∀ (j:Nat) t v,Tryz.f3.params[j]? = some t->args[j]? = some v->Value.okWide prog W .any base t v:=hval0;have hW':=hW;obtain⟨p,q,hA0,hV,rfl,_,_⟩:=hW;have hA:DataW.TrodAll enc prog W 0 (fun _=>true) true Tryz.f3.params.toList args.toList ds p:=hA0;rw[Tryz.params3]at hA hval;obtain⟨v0,d0,rfl,rfl,h0⟩:=trodAll_one hA;obtain⟨rfl,rfl⟩:=trodVars_none hV;obtain⟨L,wL,rv,back⟩:=BjU underlying22 underlying3 c3 (hval 0 22 v0 rfl rfl) h0;have hS:LibR (BbF W):=BrU hsh (by kernel_rfl) hL (by kernel_rfl) (by kernel_rfl) (by kernel_rfl);simp only[lbp]at hW' |-;refine((AzX hS L).atW (BvR W) (vs:=[v0]) (.cons rv .nil)).mono fun e W' ⟨he,hs⟩=>?_
 subst he;exact⟨_,rfl,A0J (pa:=p) (pv:=[]) hW' (fun _ _ _=>trodAll_mk1 (shut_bool underlying4 _)) (fun sp hsp=>trodAll_mk1 (back W' hs sp hsp)) (fun _ _=>rfl) (by simp) hs (ok_one (by kernel_rfl) rfl (okWide_bool_mk underlying4 _))⟩
theorem said:Rows.BindersCatchUpSaid :=
 OpenClaim.holds_of_wide 3 Tryz.f3 rfl rfl rfl rfl rfl rfl rfl ⟨rfl,rfl,rfl,rfl,rfl⟩ rfl rfl rfl rfl rfl (by kernel_rfl) func3 BvY
  (of_decide_eq_true (by kernel_rfl)) (by unfold Func.isWrapper; first|(rw[if_pos (by decide +kernel)]; kernel_rfl)|(rw[if_neg (by decide +kernel)]; exact⟨rfl,rfl⟩))
  (fun os started H enc _=>lifted os started H enc)
theorem lD:Tryz.pinned.checked.prog.mainIs=some (true,"f995194736b251aba1f3d42280f984b5b47f2cbc09c9df7a1e2d4ab28060dd53".toList):=by kernel_rfl
theorem lN:Tryz.pinned.checked.prog.funcNamed Rows.bindersCatchUpRow.func=some 3:=by kernel_rfl
theorem lK:true=Tryz.pinned.checked.prog.looks []:=by kernel_rfl
theorem lW:([22].all fun u=>!Tryz.pinned.checked.prog.wantsStandIn u)=true:=by kernel_rfl
theorem lG:false=Rows.bindersCatchUpRow.goesBy Tryz.pinned.checked.prog:=by kernel_rfl
