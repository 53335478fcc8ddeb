/- Binders, as the reference checks them: BinderFault. -/
import Derived.Test.YtmhjbljckkgeoaaGreatDoorC45
set_option maxRecDepth 100000
set_option maxHeartbeats 8000000
set_option linter.all false
namespace Go.Proofs.YtmhjbljckkgeoaaGreatDoor
open Av RowKit Proofs.Tryz
theorem BxG(s:LU):leafNameL s=(numberL (endsL s).1&&(numberL (endsL s).2&&!(s != (endsL s).1&&decide (compareN (endsL s).1 (endsL s).2>=0)))):=by
 have he:(Lib.cut s [45]).2.2=false->(Lib.cut s [45]).1=s:=by
  grind[Lib.cut]
 have hn:(Lib.cut s [45]).2.2=true->numberL (Lib.cut s [45]).1=true->s≠(Lib.cut s [45]).1:=fun h1 h2 h3=>by
  grind[A1W]
 unfold leafNameL endsL
 grind
theorem ApR{St:Std}(hS:LibOk St)(l:List Le')(hl:l.length<1000000)(hb:∀ f∈l,f.name.length<1000000/\f.first.length<1000000/\f.Lb.length<1000000/\∀ s∈f.Lb,s.length<4000000) :
  PcH prog St 8 [.fz 4 (l.map leA)] (fun r=>∃ n:Int,r=.int .i64 n/\(n=0 ↔ BinderOk l)):=by
 by_cases hm:l.length<=1500
 .have d1:decide ((l.length:Int)>1500)=false:=by grind
  refine zqIB func8 rfl fun h ρ w hg=>?_
  simp only[go_sem,d1,laa];refine AaC (ι:=Nat) (fun i=>l.length-i) (fun i=>[(15,.int .i64 i),(14,.int .i64 l.length),(13,.fz 4 (l.map leA)),(3,.str (lastE l i))]) (fun _=>[])
   (fun i=>i<=l.length/\(∀ j,(h:j<l.length)->j<i->LeafOk l[j])/\∀ j,(h:j+1<l.length)->j+1<i->nLt (endsL l[j].name).2 (endsL l[j+1].name).1) 0 (by simp) ?_ ?_
  .refine Ls ?_
   simp only[go_sem,lastE]
  .rintro i ⟨g1,g2,g3⟩ J hJ
   by_cases gi:i<l.length
   .have di:decide ((i:Int)<(l.length:Int))=true:=by grind
    have hg':=AaY gi;obtain⟨b1,b2,b3,b4⟩:=hb _ (lac gi);have hen:=AgO hS l[i].name b1;have hla:0<i->(lastE l i=(endsL (l[i-1]'(by omega)).name).2/\numberL (lastE l i)=true):=fun h0=>by
     have h1:i-1<l.length:=by omega
     have e:lastE l i=(endsL (l[i-1]'(by omega)).name).2:=by
      grind[lastE]
     exact⟨e,by rw[e]; exact(ends_num (g2 (i-1) h1 (by omega)).name).2.1⟩
    have hnx:lastE l (i+1)=(endsL l[i].name).2:=by
     grind[lastE]
    have out:LeafOk l[i]->(0<i->nLt (lastE l i) (endsL l[i].name).1)->∀ (a:Act) (w':World),Sim _ _ _ a w'->J a w':=fun e e2=>hJ (i+1) ⟨by omega,fun j h hj=>by
     grind,fun j h hj=>by
     grind⟩ (by omega)
    have bad:¬ LeafOk l[i]->¬ BinderOk l:=fun e h=>e (h.all _ (lac gi))
    have bad2:0<i->¬ nLt (lastE l i) (endsL l[i].name).1->¬ BinderOk l:=fun h0 e h=>by
     have:=h.rise (i-1) (by omega)
     grind
    rw[hnx]at out;have hen2:=@ends_num l[i].name;have hlr:=BxG l[i].name;have hlc:=cut_len l[i].name [45];have hel:(endsL l[i].name).1.length<1000000/\(endsL l[i].name).2.length<1000000:=by
     unfold endsL;refine⟨by grind,?_⟩;simp only
     split <;> omega
    have hl0:i=0->lastE l i=[]:=fun h=>by grind[lastE]
    clear hJ hnx;generalize lastE l i=last at *;generalize hf:l[i]=f at *;generalize hq:endsL f.name=p at *;obtain⟨a,b⟩:=p;simp only at hel hlr out bad2 hla hen2 hen;have hna:=AcD a (by omega);have hnb:=AcD b (by omega);apply zgB;simp only[go_sem,di,hg',laa]
    repeat refine ao ?_
    refine zeH hg (hen) ?_;rintro _ rfl;refine goB rfl 12 ?_;simp only[go_sem];refine acut (ι:=Unit) (fun _=>[(6,.str a),(7,.str b),(5,.ptr 0 1 0 0),(15,.int .i64 i),(14,.int .i64 l.length),(13,.fz 4 (l.map leA)),(3,.str last)]) (fun _=>[.arr 4 [.agg [.str f.name,.int .i64 f.Lj,.str f.first,.fz 1 (f.Lb.map .str)]]]) (fun _=>leafNameL f.name=true) ?_ ?_
    .intro Jc hJc
     have hbad:leafNameL f.name=false->¬ BinderOk l:=fun e=>bad fun h=>by rw[h.name]at e; cases e
     have fc:=hJc ();clear hJc
     cases na:numberL a with
     | false =>
      rw[na]at hna hlr;have hno:=hbad (hlr.trans rfl);apply zgB;simp only[go_sem];refine zpB (hna) ?_;simp only[go_sem];exact aret [2] rfl ⟨⟨5,rfl,by grind⟩,rfl⟩
     | true =>
      rw[na]at hna hlr
      cases nb:numberL b with
      | false =>
       rw[nb]at hnb hlr;have hno:=hbad (hlr.trans rfl);apply zgB;simp only[go_sem];refine zpB (hna) ?_;simp only[go_sem];refine zpB (hnb) ?_;simp only[go_sem];exact aret [2] rfl ⟨⟨5,rfl,by grind⟩,rfl⟩
      | true =>
       rw[nb]at hnb hlr;have hor:=AeG a b na nb
       cases ne:f.name != a with
       | false =>
        rw[ne]at hlr;have fc2:=fc (hlr.trans rfl);apply zgB;simp only[go_sem];refine zpB (hna) ?_;simp only[go_sem];refine zpB (hnb) ?_;simp only[go_sem,ne];refine ainv fc2 (Ls ?_);simp only[go_sem]
       | true =>
        rw[ne]at hlr
        cases d2:decide (compareN a b>=0)with
        | true =>
         rw[d2]at hlr;have hno:=hbad (hlr.trans rfl);apply zgB;simp only[go_sem];refine zpB (hna) ?_;simp only[go_sem];refine zpB (hnb) ?_;simp only[go_sem,ne];refine zpB (hor) ?_;simp only[go_sem,ne,d2];exact aret [2] rfl ⟨⟨5,rfl,by grind⟩,rfl⟩
        | false =>
         rw[d2]at hlr;have fc2:=fc (hlr.trans rfl);apply zgB;simp only[go_sem];refine zpB (hna) ?_;simp only[go_sem];refine zpB (hnb) ?_;simp only[go_sem,ne];refine zpB (hor) ?_;simp only[go_sem,ne,d2];refine ainv fc2 (Ls ?_);simp only[go_sem]
    .rintro-hnm
     obtain⟨n1,n2,n3⟩:=hen2 hnm;refine goB rfl 1 ?_;simp only[go_sem];refine acut (ι:=Unit) (fun _=>[(6,.str a),(7,.str b),(5,.ptr 0 1 0 0),(15,.int .i64 i),(14,.int .i64 l.length),(13,.fz 4 (l.map leA))]) (fun _=>[.arr 4 [.agg [.str f.name,.int .i64 f.Lj,.str f.first,.fz 1 (f.Lb.map .str)]]]) (fun _=>0<i->nLt last a) ?_ ?_
     .intro Jc hJc
      have fc:=hJc ();clear hJc
      by_cases hi0:i=0
      .have el:=hl0 hi0
       have d0:(last != [])=false:=by grind
       have fc2:=fc (fun h=>by omega);apply zgB;simp only[go_sem,d0];refine ainv fc2 (Ls ?_);simp only[go_sem]
      .have hln:=(hla (by omega)).2
       have d0:(last != [])=true:=by
        grind[num_ne]
       have hor:=AeG a last n1 hln
       cases d2:decide (compareN a last<=0)with
       | true =>
        have hno:=bad2 (by omega) (fun h=>by
         grind[compareN_le])
        apply zgB;simp only[go_sem,d0];refine zpB (hor) ?_;simp only[go_sem,d0,d2];exact aret [2] rfl ⟨⟨7,rfl,by grind⟩,rfl⟩
       | false =>
        have fc2:=fc (fun _=>by
         grind[compareN_le])
        apply zgB;simp only[go_sem,d0];refine zpB (hor) ?_;simp only[go_sem,d0,d2];refine ainv fc2 (Ls ?_);simp only[go_sem]
     .rintro-hris
      by_cases hd1:f.Lj<1
      .have e1:decide (f.Lj<1)=true:=by grind
       have hno:=bad fun h=>by have:=h.Lj; omega
       apply zgB;simp only[go_sem,e1];exact aret [2] rfl ⟨⟨1,rfl,by grind⟩,rfl⟩
      .have e1:decide (f.Lj<1)=false:=by grind
       by_cases hd2:f.Lj>30
       .have e2:decide (f.Lj>30)=true:=by grind
        have hno:=bad fun h=>by have:=h.Lj; omega
        apply zgB;simp only[go_sem,e1,e2];exact aret [2] rfl ⟨⟨1,rfl,by grind⟩,rfl⟩
       .have e2:decide (f.Lj>30)=false:=by grind
        have hnf:=AcD f.first (by omega)
        by_cases hfi:f.first=[]\/numberL f.first=true
        .by_cases h54:f.Lb.length<=54
         .have d54:decide ((f.Lb.length:Int)>54)=false:=by grind
          by_cases h0:f.Lb=[]
          .have d00:((f.Lb.length:Int)==0)=true:=by grind
           have hno:=bad fun h=>h.Lb.some h0
           refine hfi.elim (fun hf0=>?_) (fun hf0=>?_);have e3:(f.first != [])=false:=by grind
           apply zgB;simp only[go_sem,e1,e2,e3,d54,d00,laa]
           rotate_left
           have e3:(f.first != [])=true:=by
            grind[num_ne]
           rw[hf0]at hnf;apply zgB;simp only[go_sem,e1,e2,e3];refine zpB (hnf) ?_;simp only[go_sem,e1,e2,e3,d54,d00,laa]
           all_goals exact aret [2] rfl ⟨⟨3,rfl,by grind⟩,rfl⟩
          .have hpos:=List.length_pos_iff.2 h0
           have d00:((f.Lb.length:Int)==0)=false:=by grind
           refine hfi.elim (fun hf0=>?_) (fun hf0=>?_);have e3:(f.first != [])=false:=by grind
           apply zgB;simp only[go_sem,e1,e2,e3,d54,d00,laa]
           rotate_left
           have e3:(f.first != [])=true:=by
            grind[num_ne]
           rw[hf0]at hnf;apply zgB;simp only[go_sem,e1,e2,e3];refine zpB (hnf) ?_;simp only[go_sem,e1,e2,e3,d54,d00,laa]
           all_goals
            refine AaC (ι:=Nat) (fun j=>f.Lb.length-j) (fun j=>[(86,.int .i64 j),(85,.int .i64 f.Lb.length),(84,.fz 1 (f.Lb.map .str)),(3,.str b),(15,.int .i64 i),(14,.int .i64 l.length),(13,.fz 4 (l.map leA))]) (fun _=>[.arr 4 [.agg [.str f.name,.int .i64 f.Lj,.str f.first,.fz 1 (f.Lb.map .str)]]]) (fun j=>j<=f.Lb.length/\∀ k,(h:k<f.Lb.length)->k<j->LineFit f.Lb[k]) 0 (by simp) ?_ ?_
            .refine Ls ?_
             simp only[go_sem]
            .rintro j ⟨k1,k2⟩ K hK
             by_cases gj:j<f.Lb.length
             .have dj:decide ((j:Int)<(f.Lb.length:Int))=true:=by grind
              have hx:=AiZ gj;have hsl:=b4 _ (lac gj);have fit:LineFit f.Lb[j]->∀ (a:Act) (w':World),Sim _ _ _ a w'->K a w':=fun e=>hK (j+1) ⟨by omega,fun k h hk=>by
               grind⟩ (by omega)
              have badl:¬ LineFit f.Lb[j]->¬ BinderOk l:=fun e=>bad fun h=>e (h.Lb.all _ (lac gj))
              clear hK;generalize f.Lb[j]=s at *;have hpr:=AzH s (by omega)
              cases q1:s.all plainC with
              | false =>
               rw[q1]at hpr;have hno:=badl fun h=>by rw[h.plain]at q1; grind
               apply zgB;simp only[go_sem,dj,hx,laa]
               repeat refine ao ?_
               refine zpB (hpr) ?_;simp only[go_sem];exact aret [2] rfl ⟨⟨3,rfl,by grind⟩,rfl⟩
              | true =>
               rw[q1]at hpr;have hsx:=AbC s [32] (by omega)
               cases q2:Lib.hasSuffix s [32]with
               | true =>
                rw[q2]at hsx;have hno:=badl fun h=>by rw[h.suf]at q2; grind
                apply zgB;simp only[go_sem,dj,hx,laa]
                repeat refine ao ?_
                refine zpB (hpr) ?_;simp only[go_sem];refine zpB (hsx) ?_;simp only[go_sem];exact aret [2] rfl ⟨⟨3,rfl,by grind⟩,rfl⟩
               | false =>
                rw[q2]at hsx
                by_cases h80:s.length<=80
                .have d80:decide ((s.length:Int)>80)=false:=by grind
                 have hfin:=fit ⟨h80,q2,q1⟩;apply zgB;simp only[go_sem,dj,hx,laa]
                 repeat refine ao ?_
                 refine zpB (hpr) ?_;simp only[go_sem];refine zpB (hsx) ?_;simp only[go_sem,d80]
                 repeat refine ao ?_
                 rw[ic j];refine ainv hfin (Ls ?_);simp only[go_sem]
                .have d80:decide ((s.length:Int)>80)=true:=by grind
                 have hno:=badl fun h=>h80 h.len
                 apply zgB;simp only[go_sem,dj,hx,laa]
                 repeat refine ao ?_
                 refine zpB (hpr) ?_;simp only[go_sem];refine zpB (hsx) ?_;simp only[go_sem,d80];exact aret [2] rfl ⟨⟨3,rfl,by grind⟩,rfl⟩
             .have dj:decide ((j:Int)<(f.Lb.length:Int))=false:=by grind
              have hfin:=out ⟨hnm,by omega,hfi,h54,h0,fun s hs=>by
               obtain⟨k,hk,rfl⟩:=List.getElem_of_mem hs
               grind⟩ hris
              apply zgB;simp only[go_sem,dj]
              repeat refine ao ?_
              rw[ic i];refine ainv hfin (Shift.low 0 (by simp) (by simp) rfl ?_);simp only[go_sem]
         .have d54:decide ((f.Lb.length:Int)>54)=true:=by grind
          have hno:=bad fun h=>h54 h.Lb.few
          refine hfi.elim (fun hf0=>?_) (fun hf0=>?_);have e3:(f.first != [])=false:=by grind
          apply zgB;simp only[go_sem,e1,e2,e3,d54,laa]
          rotate_left
          have e3:(f.first != [])=true:=by
           grind[num_ne]
          rw[hf0]at hnf;apply zgB;simp only[go_sem,e1,e2,e3];refine zpB (hnf) ?_;simp only[go_sem,e1,e2,e3,d54,laa]
          all_goals exact aret [2] rfl ⟨⟨2,rfl,by grind⟩,rfl⟩
        .have hf0:f.first≠[]:=fun h=>hfi (.inl h)
         have hf1:numberL f.first=false:=by
          grind
         have e3:(f.first != [])=true:=by grind
         rw[hf1]at hnf;have hno:=bad fun h=>hfi h.first
         apply zgB;simp only[go_sem,e1,e2,e3];refine zpB (hnf) ?_;simp only[go_sem,e1,e2,e3];exact aret [2] rfl ⟨⟨5,rfl,by grind⟩,rfl⟩
   .have di:decide ((i:Int)<(l.length:Int))=false:=by grind
    have hi:i=l.length:=by omega
    subst hi;have hok:BinderOk l:=⟨hm,fun f hf=>by
     grind[List.getElem_of_mem],fun j h=>g3 j h h⟩
    apply zgB;simp only[go_sem,di];exact aret [2] rfl ⟨⟨0,rfl,by grind⟩,rfl⟩
 .have d1:decide ((l.length:Int)>1500)=true:=by grind
  have hno:¬ BinderOk l:=fun h=>hm h.few
  refine zqIB func8 rfl fun h ρ w hg=>?_
  simp only[go_sem,d1,laa];exact aret [2] rfl ⟨⟨2,rfl,by grind⟩,rfl⟩
theorem number_len{n:LU}(h:numberL n=true):n.length<=8:=by
 have:=AaM h
 grind[AbD]
theorem AzI{no:LU}(hn:numberL no=true):wrapL 60 (goneT no)=[goneT no]:=by
 have:=number_len hn;exact BmG (A1Z hn) (num_ne hn) (by decide) (by simp) (by simp; omega)
theorem BnO(no:LU)(hl:no.length<=100):Ct prog 154 [.str no] [] (fun r s=>r=.sl 1 0 1 1/\s=[.arr 1 [.str (goneT no)],.arr 3 [.agg [.int .i64 0,.sl 0 0 1 1,.sl 2 0 0 0]],.arr 1 []]):=by
 have hg:no++[32,79,77,73,84,84,69,68]=goneT no:=rfl;refine zcIW func154 rfl fun h ρ w=>?_
 simp only[go_sem,hg]
 repeat refine aqb ?_
 refine ARet.shift (Shift.cells 1 1 [.agg [.int .i64 0,.sl 0 0 1 1,.sl 2 0 0 0]] rfl rfl (by simp[cellsOf]) ⟨.refl,.refl,.sl,trivial⟩) (aret [2] rfl ⟨rfl,rfl⟩)
theorem BnP{no:LU}(hn:numberL no=true):Pc prog 154 [.str no] (· = .fz 3 [rbA (goneB no)]):=by
 refine Pc.mono (Pc.ofOwn 2 (BnO no (by grind[number_len]))) ?_;rintro _ ⟨_,_,⟨rfl,rfl⟩,rfl⟩;unfold goneB rbA;rw[AzI hn];rfl
def entL(xs:List Sc)(nos:List LU):List (LU×List Bl):=nos.map fun n=>(n,entB xs n)
theorem BhC(l:List (LU×List Bl)):(flat (l.map enA)).all Av.frozen=true:=AbA (fun _=>rfl) l
theorem PcH.nil2{P:Program}{g:Std}{f:FuncId}{a:AV}{es:Nat}{r:LY}{post:AV->Prop}(hc:PcH P g f (a::.fz es []::r) post):PcH P g f (a::.raw (.slice none 0 0)::r) post:=by
 refine⟨hc.1,fun h w vs hg hm rl=>hc.2 h w vs hg hm ?_⟩
 cases rl with
 | cons r1 rl =>
  cases rl with
  | cons r2 rl =>
   refine .cons r1 (.cons ?_ rl);have:=inv_raw (ρ:=fun _=>none) (sto:=[]) (r2.thaw (fun _ _ _ x=>x) (fl:=false));subst this;exact .fznil es
theorem BhD:∀ (l:List (LU×List Bl)),(∀ p∈l,numberL p.1=true)->∃ L:List En,L.map (·.1)=l
 | [],_=>⟨[],rfl⟩
 | a::l,h=>by
  obtain⟨L,e⟩:=BhD l fun x hx=>h x (by grind)
  exact⟨⟨a,h a (by simp)⟩::L,by grind⟩
theorem BnQ{xs:List Sc}{go E:List LU}{no:Int}{ti:LU}{lv:List Le'}(hE:EntOf ⟨no,ti,xs,go,lv⟩ E)(hm:MdOk xs E) :
  (xs.map (fun x=>(x.no,blocksL x))++go.map fun n=>(n,[goneB n]))=(nosL xs++go).map fun n=>(n,entB xs n):=by
 have hd:E.Nodup:=hE.sorted.imp fun h e=>by grind[nLt_irrefl]
 have hd2:=hE.perm.nodup_iff.1 hd
 all_goals grind[nosL,lbe,entB,atNo_get,atNo]
theorem BhE{xs:List Sc}{E:List LU}{l':List En}(hE:E.Pairwise nLt)(hp:(l'.map (·.1.1)).Perm E)(hs:l'.Pairwise (fun x y=>¬ nLt y.1.1 x.1.1))(hv:∀ p∈l',p.1.2=entB xs p.1.1):l'.map (·.1)=entL xs E:=by
 have h1:(l'.map fun p:En=>(⟨p.1.1,p.2⟩:Nu)).map (·.1)=E:=AnQ hE (by rw[lbb]; exact hp) (by grind)
 grind[entL,lbe]
theorem AdM{St:Std}(hS:LibR St){no:Int}{ti:LU}{xs:List Sc}{go E:List LU}{lv:List Le'}(hE:EntOf ⟨no,ti,xs,go,lv⟩ E)(hm:MdOk xs E)(hg:go.length<=1000) :
  PcH prog St 105 [.agg [.str ti,.fz 5 (xs.map scA)],.fz 1 (go.map .str)] (· = .fz 2 ((entL xs E).map enA)):=by
 have hfew:=hm.few;have hgn:∀ n∈go,numberL n=true:=fun n hn=>hE.num n (hE.perm.mem_iff.2 (List.mem_append_left _ hn))
 have hxn:∀ x∈xs,numberL x.no=true:=fun x hx=>hE.num _ (hE.perm.mem_iff.2 (List.mem_append_right _ (List.mem_map.2 ⟨x,hx,rfl⟩)))
 have hpm:=BnQ hE hm;refine zqIB func105 rfl fun h ρ w hg=>?_
 simp only[go_sem,laa];refine AaC (ι:=Nat) (fun i=>xs.length-i) (fun i=>[(13,.int .i64 i),(12,.int .i64 xs.length),(11,.fz 5 (xs.map scA)),(5,.sl 0 0 i i),(1,.fz 1 (go.map .str))])
  (fun i=>[.arr 2 ((xs.take i).map fun x=>enA (x.no,blocksL x))]) (fun i=>i<=xs.length) 0 (by omega) ?_ ?_
 .refine Shift.trans (Lv 5 2 rfl) (Lu ?_ (by rfl))
  simp only[go_sem]
 .intro i g1 J hJ
  by_cases gi:i<xs.length
  .have di:decide ((i:Int)<(xs.length:Int))=true:=by simp; omega
   have hg':List.getD (List.map scA xs) i .any=.agg [.str xs[i].no,.int .i64 xs[i].place,.str xs[i].set,.int .i64 xs[i].time,.fz 2 (xs[i].Ld.map paA)]:=by simp[List.getD,gi,scA]
   have hb:=A2P hS xs[i] (hm.sc _ (lac gi));have hlt:(List.take i xs).length=i:=by simp; omega
   have hfin:=hJ (i+1) (by omega) (by omega);rw[lad gi]at hfin;simp only[scA]at hb;apply zgB;simp only[go_sem,di,hg',laa]
   repeat refine aqb ?_
   refine zr [.fz 3 ((blocksL xs[i]).map rbA)] AaF ?_;simp only[go_sem,laa,hlt]
   repeat refine And.intro (by first|exact hb.at hg|omega|exact .inl trivial|rfl|(simp; done)|(simp; omega)) ?_
   apply zgB;simp only[go_sem]
   repeat refine aqb ?_
   rw[ic i];refine ainv hfin (Shift.trans (Shift.low 1 (e':=[(13,.int .i64 ((i+1:Nat):Int)),(12,.int .i64 xs.length),(11,.fz 5 (xs.map scA)),(5,.sl 0 0 (i+1) (i+1)),(1,.fz 1 (go.map .str))]) (by simp) (by simp) ?_ ?_) (Lu ?_ ?_))
   .have:=AbA (f:=fun x:Sc=>enA (x.no,blocksL x)) (fun _=>rfl) (xs.take i++[xs[i]])
    rw[laf]at this
    show(lowB 1 (.arr 2 _)&&true)=true
    rw[lau];exact AaH this
   .simp only[go_sem]
   .simp only [go_sem]
   .rw [laf]
    rfl
  .have di:decide ((i:Int)<(xs.length:Int))=false:=by simp; omega
   have hi:i=xs.length:=by omega
   subst hi;rw[lap];clear hJ;apply zgB;simp only[go_sem,di,laa];refine AaC (ι:=Nat) (fun j=>go.length-j) (fun j=>[(28,.int .i64 j),(27,.int .i64 go.length),(26,.fz 1 (go.map .str)),(5,.sl 0 0 (xs.length+j) (xs.length+j))])
    (fun j=>[.arr 2 ((xs.map (fun x=>(x.no,blocksL x))++(go.take j).map fun n=>(n,[goneB n])).map enA)]) (fun j=>j<=go.length) 0 (by omega) ?_ ?_
   .refine Lu ?_ (by simp)
    simp only[go_sem]
   .intro j g2 J hJ
    by_cases gj:j<go.length
    .have dj:decide ((j:Int)<(go.length:Int))=true:=by simp; omega
     have hg':List.getD (go.map AV.str) j .any=.str go[j]:=by simp[List.getD,gj]
     have hgo:=BnP (hgn _ (lac gj));have hfin:=hJ (j+1) (by omega) (by omega);have hlt:(List.take j go).length=j:=by simp; omega
     apply zgB;simp only[go_sem,dj,hg',laa]
     repeat refine aqb ?_
     refine zpB (hgo) ?_;simp only[go_sem,laa,hlt]
     repeat refine aqb ?_
     rw[ic j];refine ainv hfin (Lu ?_ ?_)
     .simp only [go_sem,Nat.add_assoc]
     .have e:∀ (A B:List (LU×List Bl)) c,List.map enA (A++(B++[c]))=List.map enA (A++B)++[enA c]:=fun A B c=>by
       rw[<- lca,laf]; rfl
      rw[lad gj,laf (l₁:=List.take j go)];exact congrArg (fun l=>[Blk.arr 2 l]) (e _ _ (go[j],[goneB go[j]])).symm
    .have dj:decide ((j:Int)<(go.length:Int))=false:=by simp; omega
     have hj:j=go.length:=by omega
     subst hj;rw[lap,hpm];have hall:∀ p∈(nosL xs++go).map (fun n=>(n,entB xs n)),numberL p.1=true:=fun p hp=>by
      obtain⟨n,hn,rfl⟩:=List.mem_map.1 hp
      rcases List.mem_append.1 hn with h|h
      .obtain ⟨x,hx,rfl⟩:=List.mem_map.1 h
       exact hxn x hx
      .exact hgn n h
     obtain⟨L,hL⟩:=BhD _ hall;have hLl:xs.length+go.length=L.length:=by rw[<- laa (f:=fun x:En=>x.1),hL]; simp[nosL]
     have hLm:((nosL xs++go).map fun n=>(n,entB xs n)).map enA=L.map enB:=by rw[<- hL,lbb]; rfl
     rw[hLm,hLl];apply zgB;simp only[go_sem,dj];refine za (BgZ (s:=[.arr 2 (L.map enB)]) (bid:=0) (l:=L) rfl (by omega)) ?_;rintro _ _ ⟨rfl,l',rfl,hp,hs⟩;have hl2:(l'.map (·.1.1)).Perm E:=by
      refine(hp.map _).trans ?_;have e:L.map (·.1.1)=nosL xs++go:=by
       have:=congrArg (List.map Prod.fst) hL;rw[lbb,lbb]at this;refine Eq.trans ?_ (this.trans ?_)
       .rfl
       .simp [Function.comp_def]
      rw[e];exact List.perm_append_comm.trans hE.perm.symm
     have hfe:=BhE (xs:=xs) hE.sorted hl2 hs fun p hp'=>by
      have:p.1∈L.map (·.1):=List.mem_map.2 ⟨p,hp.mem_iff.1 hp',rfl⟩;rw[hL]at this;obtain⟨n,_,e⟩:=List.mem_map.1 this;rw[<- e]
     have hfm:l'.map enB=(entL xs E).map enA:=by rw[<- hfe,lbb]; rfl
     have hll:L.length=(entL xs E).length:=by rw[<- hfe,laa,hp.length_eq]
     simp only[lby,hfm,hll];apply zgB;simp only[go_sem];refine ARet.shift (Shift.freeze 4 (id:=0) rfl rfl (by simp) (lab _) (BhC _)) (aret [4] rfl ⟨?_,rfl⟩)
     simp[resV,Av.get,Av.put,lae]
theorem BnR{k:Nat}(h1:1<=k)(h2:k<=999):numberL (Lib.itoa (k:Int))=true/\pN (Lib.itoa (k:Int))=k:=by
 rw[itoa_dig3 (by omega) (by omega)];have:=number_of (d:=(k)) (c:=[]) (by omega) (by omega) rfl (by simp) (by decide) (fun h=>by omega)
 grind
theorem BhF{xs:List Sc}{nos:List LU}(hm:MdOk xs nos):∀ f∈firstsI xs nos,f=[]\/numberL f=true:=fun f hf=>by
 obtain⟨i,_,hi⟩:=List.mem_map.1 hf
 rcases AeD xs nos i with⟨m,h3,_,h4⟩|⟨_,h4⟩
 .right
  exact hm.num _ (by grind)
 grind
theorem BuO{ti:LU}{xs:List Sc}(hd:StoryD xs):DraftOk ⟨1,ti,xs,[],lockL xs⟩:=by
 have hm:=hd.md;have h5:=hd.few;have hfew:=AoP xs hd.sc hd.few (nosL xs) (by grind[nosL]) fun n hn=>AoQ hn
 have hft:=AyK hm;have hfn:=BhF hm;have hent:=hd.ent 1 ti (lockL xs);obtain⟨ps,p1,p2,p3⟩:=AmI _ (nosL xs) (lab _) hm;have hfl:(firstsI xs (nosL xs)).length=(layL (entsB xs (nosL xs))).Lh.length:=by grind[firstsI,firsts_pages]
 have hnm:∀ k,k<(layL (entsB xs (nosL xs))).Lh.length->numberL (Lib.itoa ((k)+1))=true/\pN (Lib.itoa ((k)+1))=k+1:=fun k hk=>by
  have:=BnR (k:=k+1) (by omega) (by omega)
  grind
 refine⟨by simp,⟨fun x hx=>num_ne (hd.num x hx),hd.rise,by simp,by simp,by grind⟩,⟨?_,?_,?_⟩,?_,?_⟩
 .grind[lockL,AfH]
 .intro f hf
  simp only[lockL,lvsTo,List.mem_map,List.mem_range]at hf;obtain⟨k,hk,rfl⟩:=hf;refine⟨leafName_one (hnm k hk).1,by simp only; omega,hfn _ ?_,hft _ ?_⟩<;>grind
 .intro i hi
  simp only[lockL,AfH]at hi;have g:∀ j,(hj:j<(lockL xs).length)->(lockL xs)[j].name=Lib.itoa ((j)+1):=fun j hj=>by grind[lockL,lvsTo]
  rw[g,g,AtX (hnm i (by omega)).1,AtX (hnm (i+1) hi).1];refine .inl ?_<;>grind
 .grind[lockL,lvsTo]
 .intro E hE
  have:=BeF hE hent;subst this;refine BwT hE.sorted hE.num p1 ?_ p3;rw[<- p2];simp only[lockL,lvsTo,lbb];exact AyC _ _ hfl
structure QB(b:Bl):Prop where
 kind:b.kind=0\/b.kind=1\/b.kind=2\/b.kind=3
 some:b.Lb≠[]
 first:b.kind=3->b.Lb.getD 0 []=indent 20 b.name
theorem BxH{p:Pa}(h:DrawnP p):QB (newB p):=by
 unfold newB
 split
 .have:=AfG (W:=60) (by omega) h.text.ne h.text.hd
  refine⟨.inr (.inl rfl),fun e=>?_,fun e=>absurd (show(1:Int)=3 from e) (by decide)⟩<;>grind
 .split
  .exact ⟨.inr (.inr (.inl rfl)),by simp,fun e=>absurd (show(2:Int)=3 from e) (by decide)⟩
  .exact ⟨.inr (.inr (.inr rfl)),by simp,fun _=>rfl⟩
theorem BxI{b:Bl}(h:QB b)(kd:Int)(n:Nat)(ls:List LU):QB (addB b kd n ls):=by
 refine⟨h.kind,by simp[addB,h.some],fun e=>?_⟩;have h1:=h.first e;have h2:=h.some
 grind[addB]
theorem BuP{b:Bl}(h:QB b)(p:Pa):QB (moreB b p):=by
 grind[moreB,BxI]
theorem BhG:∀ (ps:List Pa)(s:List Bl×Bl),(∀ p∈ps,DrawnP p)->(∀ b∈s.1++[s.2],QB b)->∀ b∈(ps.foldl bstep s).1++[(ps.foldl bstep s).2],QB b
 | [],s,_,h=>h
 | p::r,s,hp,h=>by
  refine BhG r (bstep s p) (fun q hq=>hp q (by simp[hq])) ?_;unfold bstep
  split
  .intro b hb
   simp at hb
   rcases hb with hb|rfl
   .exact h b (by simp[hb])
   .exact BuP (h s.2 (by simp)) p
  .intro b hb
   simp only[lbq,List.mem_singleton]at hb
   rcases hb with(hb|rfl)|rfl
   .exact h b (by simp[hb])
   .exact h s.2 (by simp)
   .exact BxH (hp p (by simp))
theorem BxJ{xs:List Sc}(hx:∀ x∈xs,SceneD x){no:LU}(hn:numberL no=true):∀ b∈entB xs no,QB b:=by
 intro b hb;unfold entB at hb
 cases h:atNo xs no with
 | none =>
  rw[h]at hb;rw[List.mem_singleton.1 hb];exact⟨.inl rfl,by grind[goneB,AzI],fun e=>absurd (show(0:Int)=3 from e) (by decide)⟩
 | some x =>
  rw[h]at hb;have hd:=hx x (AeP h).1;have hx':=(AeP h).2;have hw:1<=(wrapL 60 (headL x)).length:=by
   have hb:(x.no != [])=true:=by grind[num_ne]
   refine AfG (by omega) ?_ ?_ <;> unfold headL <;> rw[if_pos hb,hx']
   all_goals grind[AgI]
  refine BhG x.Ld ([],⟨0,wrapL 60 (headL x),[],[]⟩) hd.all (fun b hb=>?_) b hb
  simp at hb
  subst hb;refine⟨.inl rfl,fun e=>?_,fun e=>absurd (show(0:Int)=3 from e) (by decide)⟩<;>grind
theorem BnS{bs:List Bl}{b:Bl}(h:b∈bs):72+b.Lb.length<=costP bs:=by
 induction bs<;>grind[costP]
theorem BhH(bs:List Bl)(g:Nat):costP (bs.take g)<=costP bs:=by
 grind[costP_append,lbd]
theorem BpU{xs:List Sc}(hx:∀ x∈xs,SceneD x){no:LU}(hn:numberL no=true):∀ b∈entB xs no,LdOk b:=by
 intro b hb;obtain⟨s1,s2⟩:=A1Y hx hn;have q:=BxJ hx hn b hb;have hc:=BnS hb;obtain⟨a1,a2,a3⟩:=(AdA hx hn).1 b hb;have hf:=BfK hx hn b hb;exact⟨BnB (s1 b hb) q.some,⟨q.kind,a1.kinds,by omega⟩,q.first,fun l hl=>by have:=(hf.Lb l hl).len; omega,by omega⟩
theorem BhI{xs:List Sc}{nos:List LU}(hm:MdOk xs nos):(∀ b∈entsB xs nos,AgG b)/\costP (entsB xs nos)<=5256*nos.length:=by
 have key:∀ l:List LU,(∀ n∈l,numberL n=true)->(∀ b∈entsB xs l,AgG b)/\costP (entsB xs l)<=5256*l.length:=by
  intro l
  induction l with
  | nil=>grind[entsB,costP]
  | cons n r ih =>
   intro h;obtain⟨s1,s2⟩:=A1Y hm.sc (h n (by simp))
   grind[entsB,costP_append]
 exact key nos hm.num
theorem entL_snd(xs:List Sc)(nos:List LU):ssE (entL xs nos)=nos.map (entB xs):=by grind[ssE,entL,Function.comp_def]
theorem entL_flat(xs:List Sc)(nos:List LU):(ssE (entL xs nos)).flatten=entsB xs nos:=by rw[entL_snd,A6D]
theorem md_pg{xs:List Sc}{nos:List LU}(hm:MdOk xs nos):PgOk (entL xs nos):=by
 obtain⟨c1,c2⟩:=BhI hm;have h6:5256*nos.length<=5256*300:=Nat.mul_le_mul_left _ hm.fewN;refine⟨by grind[entL_snd,BxF],fun e he=>?_,fun b hb x hx=>?_,fun g hg=>?_,?_,fun e he=>?_⟩
 .obtain ⟨n,hn,rfl⟩:=List.mem_map.1 he
  exact BpU hm.sc (hm.num n hn)
 .rw [entL_flat]at hb
  obtain⟨n,hn,hb⟩:=List.mem_flatMap.1 hb;exact((AdA hm.sc (hm.num n hn)).1 b hb).1.own x hx
 .grind[entL_flat,layTo_few,BhH]
 .grind[entL]
 .obtain ⟨n,hn,rfl⟩:=List.mem_map.1 he
  have:=(AdA hm.sc (hm.num n hn)).2.2
  grind
theorem fiTo_congr{bs:List Bl}{hx hx':Nat->Nat}{no no':Nat->LU}{n:Nat}:∀ k,(∀ j,j<k->hx j=hx' j/\no j=no' j)->fiTo bs hx no n k=fiTo bs hx' no' n k
 | 0,_=>rfl
 | k+1,h=>by
  have ih:=fiTo_congr (bs:=bs) (n:=n) k fun j hj=>h j (by omega)
  obtain⟨h1,h2⟩:=h k (by omega);simp only[fiTo,ih,h1,h2]
theorem brk_ents{xs:List Sc}{nos:List LU}(hm:MdOk xs nos):∀ b∈entsB xs nos,BrkOk b:=fun b hb=>by
 obtain⟨n,hn,hb⟩:=List.mem_flatMap.1 hb;exact(BpU hm.sc (hm.num n hn) b hb).brk
theorem BxK{xs:List Sc}{nos:List LU}(hm:MdOk xs nos):fiR (entL xs nos) (entL xs nos).length=firstsI xs nos:=by
 grind[fi_eq,brk_ents,entL,fiR,entL_flat,fiTo_congr,hxR,entL_snd,List.map_take,A6D]
theorem AhI{xs:List Sc}{nos:List LU}(hm:MdOk xs nos):Pc prog 104 [.fz 2 ((entL xs nos).map enA)] (· = .fz 2 (AdL (firstsI xs nos) (layL (entsB xs nos)).Lh)):=by
 refine Pc.mono (Pc.ofOwn 1 (A9A _ (md_pg hm))) ?_;rintro _ ⟨_,_,⟨rfl,rfl⟩,rfl⟩;rw[BxK hm,entL_flat];simp only[borV,borC_sl];rw[AcR rfl (by rw[AfJ])];unfold AdL;rw[AgM fun _=>rfl]
theorem BnT(xs:List Sc)(E:List LU)(a b:Nat):((entL xs E).take b).drop a=entL xs ((E.take b).drop a):=by grind[entL,List.map_take,List.map_drop]
theorem A2V(l:List Sc)(i:Nat)(h:i<l.length):List.getD (List.map scA l) i .any=.agg [.str l[i].no,.int .i64 l[i].place,.str l[i].set,.int .i64 l[i].time,.fz 2 (l[i].Ld.map paA)]:=by grind[scA]
theorem BuQ(l:List Pa)(i:Nat)(h:i<l.length):List.getD (List.map paA l) i .any=.agg [.int .i64 l[i].kind,.str l[i].text]:=by grind[paA]
theorem AzJ{α:Type}{p:α->Bool}{l:List α}(h:∀ j,(hj:j<l.length)->p l[j]=false):idxP p l=-1:=by
 grind[List.getElem_of_mem,idxP]
theorem AzK{α:Type}{p:α->Bool}{l:List α}{i:Nat}(hi:i<l.length)(hp:p l[i]=true)(h:∀ j,(hj:j<i)->p (l[j]'(by omega))=false):idxP p l=i:=by
 grind[List.findIdx?_eq_some_iff_getElem,idxP]
theorem BnU{α:Type}{p:α->Bool}{l:List α}:decide (idxP p l>=0)=l.any p:=by
 grind[idxP]
theorem BnV(f:FuncId)(caps:LY)(hc:caps.all frozen0=true)(p:Sc->Bool)(l:List Sc)(hl:l.length<100000000)(hf:∀ x∈l,Pc prog f (scA x::caps) (· = .bool (p x))) :
  Pc prog 160 [.fz 5 (l.map scA),.fn (.func f) caps] (· = .int .i64 (idxP p l)):=by
 refine zpIB func160 rfl fun h ρ w=>?_
 simp only[go_sem];refine AaC (ι:=Nat) (fun i=>l.length-i) (fun i=>[(8,.int .i64 i),(7,.int .i64 l.length),(1,.fn (.func f) caps),(0,.fz 5 (l.map scA))]) (fun _=>[]) (fun i=>i<=l.length/\∀ j,(hj:j<l.length)->j<i->p l[j]=false) 0 ⟨by simp,fun j _ h=>absurd h (by omega)⟩ ?_ ?_
 .refine Ls ?_
  simp only[go_sem,laa]
 .rintro i ⟨g1,g2⟩ J hJ
  by_cases gi:i<l.length
  .have di:decide ((i:Int)<(l.length:Int))=true:=by simp; omega
   have hfx:=hf _ (lac gi);simp only[scA]at hfx;apply zgB;simp only[go_sem,di,A2V l i gi,laa]
   repeat refine aqe ?_
   cases hp:p l[i]with
   | true =>
    rw[hp]at hfx;refine AaL hfx (nr1_cons rfl hc) rfl rfl (zgB ?_);simp only[go_sem];exact aret [4] rfl ⟨congrArg _ (AzK gi hp fun j hj=>g2 j (by omega) hj).symm,rfl⟩
   | false =>
    rw[hp]at hfx;refine AaL hfx (nr1_cons rfl hc) rfl rfl (zgB ?_);simp only[go_sem]
    repeat refine aqf ?_
    rw[ic i];refine ainv (hJ (i+1) ⟨by omega,fun j hj h=>?_⟩ (by omega)) (Ls ?_)
    .rcases Nat.lt_or_ge j i with h2|h2
     .exact g2 j hj h2
     .have:j=i:=by omega
      subst this; exact hp
    .simp only [go_sem]
  .have di:decide ((i:Int)<(l.length:Int))=false:=by simp; omega
   apply zgB;simp only[go_sem,di];exact aret [4] rfl ⟨congrArg _ (AzJ fun j hj=>g2 j hj (by omega)).symm,rfl⟩
theorem A6L(f:FuncId)(caps:LY)(hc:caps.all frozen0=true)(p:Sc->Bool)(l:List Sc)(hl:l.length<100000000)(hf:∀ x∈l,Pc prog f (scA x::caps) (· = .bool (p x))) :
  Pc prog 112 [.fz 5 (l.map scA),.fn (.func f) caps] (· = .bool (l.any p)):=by
 refine zpIB func112 rfl fun h ρ w=>?_
 simp only[go_sem];refine AaL (BnV f caps hc p l hl hf) (by simp only[las,lba,nr1,Av.frozen,hc,lbh]) rfl rfl (zgB ?_);simp only[go_sem];refine aret [4] rfl ⟨?_,rfl⟩;simp only[resV,Av.get,Av.put,cond_true,lbf];rw[<- BnU]
