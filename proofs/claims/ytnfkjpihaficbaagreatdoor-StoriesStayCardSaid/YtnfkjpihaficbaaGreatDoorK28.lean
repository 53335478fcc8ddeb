/- Words of a text. -/
import Derived.Test.YtnfkjpihaficbaaGreatDoorK27
set_option maxRecDepth 100000
set_option maxHeartbeats 4000000
set_option linter.unusedSimpArgs false
set_option linter.unusedVariables false
namespace Go.Proofs.YtnfkjpihaficbaaGreatDoor
open Go Go.Av Go.RowKit _root_.Go.Proofs.Tryz
def letB(n:Int):Bool:=capI n||(decide (n>=97)&&decide (n<=122))
theorem AnD(n:Int):Pc prog 153 [.int .u8 n] (· = .bool (letB n)):=by
 refine zpIN func153 rfl fun h ρ w=>?_
 simp only[go_sem];refine zpN (AbR n) ?_;unfold letB
 cases e:capI n with
 | true =>
  simp only[go_sem,e];exact zt [2]
 | false =>
  cases e1:decide (n>=97)with
  | true =>
   simp only[go_sem,e,e1];exact zt [2]
  | false =>
   simp only[go_sem,e,e1];exact zt [2]
structure Wst where
 letters:Bool
 word:List UInt8
 out:List (List UInt8)
def lowerC(c:UInt8):UInt8:=if capI c.toNat then c+32 else c
def wstep(s:Wst)(c:UInt8):Wst :=
 if letB c.toNat||digI c.toNat then⟨true,s.word++[lowerC c],s.out⟩
 else if((c.toNat:Int)==39) then⟨s.letters,s.word++[c],s.out⟩
 else⟨false,[],if s.letters then s.out++[s.word] else s.out⟩
def wordsL(s:List UInt8):List (List UInt8):=((s++[32]).foldl wstep ⟨false,[],[]⟩).out
theorem A7T{c:UInt8}(h:capI c.toNat=true):((lowerC c).toNat:Int)=c.toNat+32:=by
 simp only[lowerC,h,if_true];simp only[capI,Bool.and_eq_true,decide_eq_true_eq]at h;rw[UInt8.toNat_add];have:c.toNat+(32:UInt8).toNat=c.toNat+32:=rfl;omega
theorem A2V(l:List UInt8):(flat (bys l)).all Av.frozen=true:=by
 induction l with
 | nil=>rfl
 | cons y l ih=>simpa[bys,flat,cellsOf,Av.frozen]using ih
theorem AnE(l:List (List UInt8)):(flat (l.map AV.str)).all Av.frozen=true:=by
 induction l with
 | nil=>rfl
 | cons y l ih=>simpa[flat,cellsOf,Av.frozen]using ih
theorem ArI(n:Nat)(l:List UInt8):lowB n (.arr 1 (bys l))=true:=AaD (A2V l)
theorem AlA(n:Nat)(l:List (List UInt8)):lowB n (.arr 1 (l.map .str))=true:=AaD (AnE l)
theorem AlB(l:List (List UInt8)):dry (.arr 1 (l.map .str))=true:=AnE l
theorem A0H(s:List UInt8)(hs:s.length<1000000):Pc prog 105 [.str s] (· = .fz 1 ((wordsL s).map .str)):=by
 refine zpIN func105 rfl fun h ρ w=>?_
 simp only[go_sem]
 repeat refine aqg ?_
 refine AaC (ι:=Nat×Wst) (fun y=>s.length+1-y.1)
  (fun y=>[(12,.int .i64 y.1),(11,.int .i64 (s.length+1)),(5,.sl 2 0 y.2.word.length y.2.word.length),(4,.bool y.2.letters),(3,.sl 1 0 y.2.out.length y.2.out.length),(0,.str s)])
  (fun y=>[.dead,.arr 1 (y.2.out.map .str),.arr 1 (bys y.2.word)])
  (fun y=>y.1<=s.length+1/\y.2.word.length<=y.1/\y.2.out.length<=y.1/\(((s++[32]).drop y.1).foldl wstep y.2).out=wordsL s) (0,⟨false,[],[]⟩) ⟨by simp,by simp,by simp,rfl⟩ ?_ ?_
 .refine Shift.trans (Shift.nilsl 3 1 rfl) (Shift.trans (Shift.trim 5 (id:=0) rfl rfl rfl (Nat.le_refl _)) (Shift.weak ?_))
  simp only[go_sem]
 .rintro ⟨i,st⟩ ⟨g1,g2,g3,g4⟩ J hJ
  simp only at g1 g2 g3 g4 hJ |-
  by_cases gi:i<s.length+1
  .have di:decide ((i:Int)<(s.length:Int)+1)=true:=by simp; omega
   have hi:i<(s++[32]).length:=by simpa using gi
   rw[List.drop_eq_getElem_cons hi,List.foldl_cons]at g4;have hc:∃ c:UInt8,(s++[32])[i]=c:=⟨_,rfl⟩;obtain⟨c,hc⟩:=hc;rw[hc]at g4;have e1:(i:Int)+1=((i+1:Nat):Int):=by omega
   have app:∀ x:UInt8,bys st.word++[AV.int .u8 x.toNat]=bys (st.word++[x]):=fun x=>by simp[bys]
   have appl:∀ x:UInt8,st.word.length+1=(st.word++[x]).length:=fun x=>by simp
   have apo:List.map AV.str st.out++[AV.str st.word]=List.map AV.str (st.out++[st.word]):=by simp
   have apol:st.out.length+1=(st.out++[st.word]).length:=by simp
   by_cases hlt:i<s.length
   .have d2:decide ((i:Int)<(s.length:Int))=true:=by simp; omega
    have hgd:s.getD i 0=c:=by rw[<- hc]; simp[List.getD,hlt,List.getElem_append_left]
    refine zgN ?_;simp only[go_sem,di,d2,hgd]
    repeat refine And.intro (by first|omega|simpa using hlt) ?_
    refine zpN (AnD _) ?_
    cases q1:letB c.toNat with
    | true =>
     simp only[go_sem];refine zpN (AbR _) ?_
     cases q2:capI c.toNat with
     | true =>
      have hv:=A7T q2;have hw:wstep st c=⟨true,st.word++[lowerC c],st.out⟩:=by simp[wstep,q1]
      have hub:=(lowerC c).toNat_lt;simp only[go_sem];rw[<- hv]
      repeat refine al ?_
      rw[app,appl (lowerC c),e1];refine ainv (hJ (i+1,⟨true,st.word++[(lowerC c)],st.out⟩) ⟨by simp only; omega,by simp; omega,by simp only; omega,by rw[hw]at g4; exact g4⟩ (by simp only; omega)) (Shift.low 3 (by simp) (by simp) ?_ ?_)
      .simp only [List.take_succ_cons,List.take_zero,List.all_cons,List.all_nil,↓ArI,↓AlA,lowB,Bool.and_self]
      .simp only [go_sem]
     | false =>
      have hv:lowerC c=c:=by simp[lowerC,q2]
      have hw:wstep st c=⟨true,st.word++[c],st.out⟩:=by simp[wstep,q1,hv]
      simp only[go_sem]
      repeat refine al ?_
      rw[app,appl c,e1];refine ainv (hJ (i+1,⟨true,st.word++[c],st.out⟩) ⟨by simp only; omega,by simp; omega,by simp only; omega,by rw[hw]at g4; exact g4⟩ (by simp only; omega)) (Shift.low 3 (by simp) (by simp) ?_ ?_)
      .simp only [List.take_succ_cons,List.take_zero,List.all_cons,List.all_nil,↓ArI,↓AlA,lowB,Bool.and_self]
      .simp only [go_sem]
    | false =>
     simp only[go_sem];refine zpN (AfZ _) ?_
     cases q3:digI c.toNat with
     | true =>
      have q2:capI c.toNat=false:=by
       simp only[letB,Bool.or_eq_false_iff]at q1;exact q1.1
      have hv:lowerC c=c:=by simp[lowerC,q2]
      have hw:wstep st c=⟨true,st.word++[c],st.out⟩:=by simp[wstep,q1,q3,hv]
      simp only[go_sem];refine zpN (AbR _) ?_;rw[q2];simp only[go_sem]
      repeat refine al ?_
      rw[app,appl c,e1];refine ainv (hJ (i+1,⟨true,st.word++[c],st.out⟩) ⟨by simp only; omega,by simp; omega,by simp only; omega,by rw[hw]at g4; exact g4⟩ (by simp only; omega)) (Shift.low 3 (by simp) (by simp) ?_ ?_)
      .simp only [List.take_succ_cons,List.take_zero,List.all_cons,List.all_nil,↓ArI,↓AlA,lowB,Bool.and_self]
      .simp only [go_sem]
     | false =>
      cases q4:((c.toNat:Int)==39)with
      | true =>
       have hw:wstep st c=⟨st.letters,st.word++[c],st.out⟩:=by simp[wstep,q1,q3,q4]
       simp only[go_sem,q4]
       repeat refine al ?_
       rw[app,appl c,e1];refine ainv (hJ (i+1,⟨st.letters,st.word++[c],st.out⟩) ⟨by simp only; omega,by simp; omega,by simp only; omega,by rw[hw]at g4; exact g4⟩ (by simp only; omega)) (Shift.low 3 (by simp) (by simp) ?_ ?_)
       .simp only [List.take_succ_cons,List.take_zero,List.all_cons,List.all_nil,↓ArI,↓AlA,lowB,Bool.and_self]
       .simp only [go_sem]
      | false =>
       cases q5:st.letters with
       | true =>
        have hw:wstep st c=⟨false,[],st.out++[st.word]⟩:=by simp[wstep,q1,q3,q4,q5]
        simp only[go_sem,q4,q5];have htk:List.map Av.byteOf (List.take st.word.length (bys st.word))=st.word:=by
         rw[List.take_of_length_le (by simp)]; exact(AkZ st.word).2
        have hall:(List.take st.word.length (bys st.word)).all AdG=true:=by
         rw[List.take_of_length_le (by simp)]; exact(AkZ st.word).1
        rw[htk,hall]
        repeat refine al ?_
        rw[apo,apol];refine zr [] mixed ?_;simp only[go_sem]
        repeat refine al ?_
        simp only[Nat.sub_zero];refine zgN ?_;simp only[go_sem]
        repeat refine al ?_
        rw[e1];refine ainv (hJ (i+1,⟨false,[],st.out++[st.word]⟩) ⟨by simp only; omega,by simp,by simp; omega,by rw[hw]at g4; exact g4⟩ (by simp only; omega)) (Shift.trans (Shift.trim 5 (id:=2) rfl rfl (by simp) (Nat.zero_le _)) (Shift.only 2 4 (by simp) (by simp) rfl (by simp) rfl ?_ ?_))
        .simp only [List.set_cons_succ,List.set_cons_zero,List.cons_append,List.nil_append,List.take_succ_cons,List.take_zero,List.all_cons,List.all_nil,↓AlB,dry,Bool.and_self]
        .simp only [wkg,okg,Go.Av.put,Av.get,go_sem]
         simp
       | false =>
        have hw:wstep st c=⟨false,[],st.out⟩:=by simp[wstep,q1,q3,q4,q5]
        simp only[go_sem,q4,q5];refine zr [] mixed ?_;simp only[go_sem]
        repeat refine al ?_
        simp only[Nat.sub_zero];refine zgN ?_;simp only[go_sem]
        repeat refine al ?_
        rw[e1];refine ainv (hJ (i+1,⟨false,[],st.out⟩) ⟨by simp only; omega,by simp,by simp; omega,by rw[hw]at g4; exact g4⟩ (by simp only; omega)) (Shift.trans (Shift.trim 5 (id:=2) rfl rfl (by simp) (Nat.zero_le _)) (Shift.only 2 3 (by simp) (by simp) rfl (by simp) rfl ?_ ?_))
        .simp only [List.set_cons_succ,List.set_cons_zero,List.cons_append,List.nil_append,List.take_succ_cons,List.take_zero,List.all_cons,List.all_nil,↓AlB,dry,Bool.and_self]
        .simp only [wkg,okg,Go.Av.put,Av.get,go_sem]
         simp
   .have d2:decide ((i:Int)<(s.length:Int))=false:=by simp; omega
    have hc32:c=32:=by rw[<- hc]; rw[List.getElem_append_right (by omega)]; simp
    subst hc32;refine zgN ?_;simp only[go_sem,di,d2];refine zpN (AnD 32) ?_;rw[show letB 32=false from rfl];simp only[go_sem];refine zpN (AfZ 32) ?_;rw[show digI 32=false from rfl]
    cases q5:st.letters with
    | true =>
     have hw:wstep st 32=⟨false,[],st.out++[st.word]⟩:=by
      have:letB ((32:UInt8).toNat:Int)=false:=rfl;have:digI ((32:UInt8).toNat:Int)=false:=rfl
      simp_all [wstep]
     simp only[go_sem,q5];have htk:List.map Av.byteOf (List.take st.word.length (bys st.word))=st.word:=by
      rw[List.take_of_length_le (by simp)]; exact(AkZ st.word).2
     have hall:(List.take st.word.length (bys st.word)).all AdG=true:=by
      rw[List.take_of_length_le (by simp)]; exact(AkZ st.word).1
     rw[htk,hall]
     repeat refine al ?_
     rw[apo,apol];refine zr [] mixed ?_;simp only[go_sem]
     repeat refine al ?_
     simp only[Nat.sub_zero];refine zgN ?_;simp only[go_sem]
     repeat refine al ?_
     rw[e1];refine ainv (hJ (i+1,⟨false,[],st.out++[st.word]⟩) ⟨by simp only; omega,by simp,by simp; omega,by rw[hw]at g4; exact g4⟩ (by simp only; omega)) (Shift.trans (Shift.trim 5 (id:=2) rfl rfl (by simp) (Nat.zero_le _)) (Shift.only 2 4 (by simp) (by simp) rfl (by simp) rfl ?_ ?_))
     .simp only [List.set_cons_succ,List.set_cons_zero,List.cons_append,List.nil_append,List.take_succ_cons,List.take_zero,List.all_cons,List.all_nil,↓AlB,dry,Bool.and_self]
     .simp only [wkg,okg,Go.Av.put,Av.get,go_sem]
      simp
    | false =>
     have hw:wstep st 32=⟨false,[],st.out⟩:=by
      have:letB ((32:UInt8).toNat:Int)=false:=rfl;have:digI ((32:UInt8).toNat:Int)=false:=rfl
      simp_all [wstep]
     simp only[go_sem,q5];refine zr [] mixed ?_;simp only[go_sem]
     repeat refine al ?_
     simp only[Nat.sub_zero];refine zgN ?_;simp only[go_sem]
     repeat refine al ?_
     rw[e1];refine ainv (hJ (i+1,⟨false,[],st.out⟩) ⟨by simp only; omega,by simp,by simp; omega,by rw[hw]at g4; exact g4⟩ (by simp only; omega)) (Shift.trans (Shift.trim 5 (id:=2) rfl rfl (by simp) (Nat.zero_le _)) (Shift.only 2 3 (by simp) (by simp) rfl (by simp) rfl ?_ ?_))
     .simp only [List.set_cons_succ,List.set_cons_zero,List.cons_append,List.nil_append,List.take_succ_cons,List.take_zero,List.all_cons,List.all_nil,↓AlB,dry,Bool.and_self]
     .simp only [wkg,okg,Go.Av.put,Av.get,go_sem]
      simp
  .have di:decide ((i:Int)<(s.length:Int)+1)=false:=by simp; omega
   have:i=s.length+1:=by omega
   subst this;rw[List.drop_of_length_le (by simp)]at g4;have hf:∀ l:List (List UInt8),(flat (l.map AV.str)).all Av.frozen=true:=fun l=>by
    induction l with
    | nil=>rfl
    | cons y l ih=>simpa[flat,cellsOf,Av.frozen]using ih
   refine zgN ?_;simp only[go_sem,di];refine ARet.shift (Shift.freeze 2 (id:=1) rfl rfl (by simp) (Nat.le_refl _) (hf _)) (aret [2] rfl ⟨?_,rfl⟩);rw[<- g4]
   simp[resV,Av.get,Av.put,List.take_of_length_le]
def BiP(c:UInt8):List (List UInt8)->List (List UInt8)
 | []=>[[c]]
 | w::ws=>(c::w)::ws
def splitW:List UInt8->List (List UInt8)
 | []=>[[]]
 | c::r=>if c==32 then[]::splitW r else BiP c (splitW r)
theorem AfN:∀ q:List UInt8,(Lib.index q [32]=-1/\splitW q=[q])\/∃ i:Nat,Lib.index q [32]=i/\i<q.length/\splitW q=q.take i::splitW (q.drop (i+1))
 | []=>.inl ⟨rfl,rfl⟩
 | c::r=>by
  by_cases hc:c=32
  .subst hc
   exact .inr ⟨0,by simp[Lib.index],by simp,by simp[splitW]⟩
  .have h1:(c==32)=false:=by simpa using hc
   have h2:((32:UInt8)==c)=false:=by simpa using fun e=>hc e.symm
   rcases AfN r with⟨h3,h4⟩|⟨i,h3,h4,h5⟩
   .refine .inl ⟨?_,by simp[splitW,h1,h4,BiP]⟩
    simp[Lib.index,h3]
    exact fun e=>hc e.symm
   .refine .inr ⟨i+1,?_,by simpa using h4,by simp[splitW,h1,h5,BiP]⟩
    have:((i:Int)==-1)=false:=by rw[beq_eq_false_iff_ne]; omega
    simp[Lib.index,h3,this]
    exact fun e=>(hc e.symm).elim
theorem A7U{S:Std}(hS:LibOk S)(s p:List UInt8)(hs:s.length<4294967281):PcH prog S 202 [.str s,.str p] (· = .int .i64 (Lib.index s p)) :=
 AwL [_,_] (.int .i64 (Lib.index s p)) hB202 (AdB s p) (fun h=>.int _ _) fun w H=>(Any.strings_Index { Tryz.lays144 with } ⟨s.toArray⟩ ⟨p.toArray⟩ _ w hs (hS.cell.choose_spec w H)).mono fun e w' ⟨h1,h2⟩=>⟨h1,h2▸.refl w⟩
theorem AxC(sto:List Blk)(t p:List UInt8):Ct prog 207 [.str t,.str p,.int .i64 0] sto (fun r s=>r=.fn (.func 259) [.ptr (sto.length+1) 1 0 0,.ptr sto.length 1 0 0,.ptr (sto.length+1+1) 1 0 0]/\s=sto++[.arr 1 [.str t]]++[.arr 1 [.str p]]++[.arr 1 [.int .i64 0]]):=by
 refine zcIN func207 rfl fun h ρ w=>?_
 simp only[go_sem,List.length_append];exact zt [6]
theorem AuI(sto:List Blk)(t p:List UInt8):Ct prog 151 [.str t,.str p] sto (fun r s=>r=.fn (.func 259) [.ptr (sto.length+1) 1 0 0,.ptr sto.length 1 0 0,.ptr (sto.length+1+1) 1 0 0]/\s=sto++[.arr 1 [.str t]]++[.arr 1 [.str p]]++[.arr 1 [.int .i64 0]]):=by
 refine zcIN func151 rfl fun h ρ w=>?_
 simp only[go_sem];refine za (AxC sto t p) ?_;rintro _ _ ⟨rfl,rfl⟩;refine zgN ?_;simp only[go_sem];exact zt [4]
def wdB(c:UInt8):Bool:=smI c.toNat||(digI c.toNat||(c.toNat:Int)==39)
def isWordL(s:List UInt8):Bool:=decide (1<=s.length)&&(decide (s.length<=20)&&(Lib.trimS s [39] != []&&s.all wdB))
theorem A7V(s:List UInt8)(h:isWordL s=true):Pc prog 209 [.str s] (· = .bool true):=by
 simp only[isWordL,Bool.and_eq_true,decide_eq_true_eq]at h;obtain⟨h1,h2,h3,h4⟩:=h;have d1:decide ((s.length:Int)<1)=false:=by simp; omega
 have d2:decide ((s.length:Int)>20)=false:=by simp; omega
 have d3:(Lib.trimS s [39]==[])=false:=by simpa using h3
 have hp:=AmN s [39] (by omega) (by decide) (by unfold AcL; decide);refine zpIN func209 rfl fun h ρ w=>?_
 simp only[go_sem,d1,d2];refine zpN (hp) ?_;simp only[go_sem,d3];refine AaC (ι:=Nat) (fun i=>s.length-i) (fun i=>[(19,.int .i64 i),(18,.int .i64 s.length),(0,.str s)]) (fun _=>[]) (fun i=>i<=s.length) 0 (by omega) ?_ ?_
 .refine Shift.weak ?_
  simp only[go_sem]
 .rintro i g1 J hJ
  refine zgN ?_
  by_cases hi:(i:Int)<s.length
  .have hil:i<s.length:=by omega
   have hgd:s.getD i 0=s[i]:=by simp[List.getD,hil]
   have hc:=List.all_eq_true.1 h4 _ (List.getElem_mem hil);have hfin:=hJ (i+1) (by omega) (by omega);simp only[wdB]at hc;simp only[go_sem,hi,hgd]
   repeat refine ao ?_
   refine zpN (AdO _) ?_
   cases c1:smI (s[i].toNat:Int)with
   | true =>
    simp only[go_sem];rw[ic i]
    repeat refine ao ?_
    refine ainv hfin (Shift.weak ?_);simp only[go_sem]
   | false =>
    rw[c1]at hc;simp only[go_sem,hi,hgd]
    repeat refine ao ?_
    refine zpN (AaN _) ?_
    cases c2:digI (s[i].toNat:Int)with
    | true =>
     simp only[go_sem];rw[ic i]
     repeat refine ao ?_
     refine ainv hfin (Shift.weak ?_);simp only[go_sem]
    | false =>
     rw[c2]at hc;have c3:((s[i].toNat:Int) != 39)=false:=by simpa using hc
     simp only[go_sem,hi,hgd,c3];rw[ic i]
     repeat refine ao ?_
     refine ainv hfin (Shift.weak ?_);simp only[go_sem]
  .simp only [go_sem,hi]
   exact zt [2]
theorem ApM(sep:List UInt8):∀ (k:Nat)(s:List UInt8),∀ x∈Lib.splitK sep 0 k s,x.length<=s.length
 | 0,s,x,hx=>by
  rw[Lib.splitK,List.mem_singleton]at hx;subst hx;exact Nat.le_refl _
 | k+1,s,x,hx=>by
  rw[Lib.splitK]at hx
  split at hx
  .rw [List.mem_singleton]at hx
   subst hx;exact Nat.le_refl _
  .rcases List.mem_cons.1 hx with rfl|hx
   .rw [List.length_take]
    exact Nat.min_le_right ..
   .have:=ApM sep k _ x hx
    simp only[List.length_drop]at this;omega
theorem AhH(sep:List UInt8):∀ (k:Nat)(s:List UInt8),(Lib.splitK sep 0 k s).length<=k+1
 | 0,s=>by simp[Lib.splitK]
 | k+1,s=>by
  rw[Lib.splitK]
  split
  .simp
  .have:=AhH sep k (s.drop ((Lib.index s sep).toNat+sep.length))
   simp only[List.length_cons]; omega
theorem AgJ(s:List UInt8)(c:UInt8):splitL s [c]=Lib.splitK [c] 0 (Lib.count s [c]) s:=by
 unfold splitL;rw[Lib.splitB_data]
 try rfl
theorem AnF(s:List UInt8)(c:UInt8):∀ x∈splitL s [c],x.length<=s.length:=by
 rw[AgJ];exact ApM _ _ _
theorem ApN(s:List UInt8)(hl:s.length<1000000):Pc prog 209 [.str s] (· = .bool (isWordL s)):=by
 cases hw:isWordL s with
 | true=>exact A7V s hw
 | false =>
 have hp:=AmN s [39] (by omega) (by decide) (by unfold AcL; decide)
 by_cases h1:1<=s.length
 rotate_left
 .have d1:decide ((s.length:Int)<1)=true:=by simp; omega
  refine zpIN func209 rfl fun h ρ w=>?_
  simp only[go_sem,d1];exact zt [2]
 have d1:decide ((s.length:Int)<1)=false:=by simp; omega
 by_cases h2:s.length<=20
 rotate_left
 .have d2:decide ((s.length:Int)>20)=true:=by simp; omega
  refine zpIN func209 rfl fun h ρ w=>?_
  simp only[go_sem,d1,d2];exact zt [2]
 have d2:decide ((s.length:Int)>20)=false:=by simp; omega
 by_cases h3:Lib.trimS s [39]=[]
 .have d3:(Lib.trimS s [39]==[])=true:=by simpa using h3
  refine zpIN func209 rfl fun h ρ w=>?_
  simp only[go_sem,d1,d2];refine zpN (hp) ?_;simp only[go_sem,d3];exact zt [2]
 have d3:(Lib.trimS s [39]==[])=false:=by simpa using h3
 have h4:s.all wdB=false:=by
  simp only[isWordL,h1,h2,decide_true,Bool.true_and]at hw;have:(Lib.trimS s [39] != [])=true:=by simpa using h3
  rw[this,Bool.true_and]at hw;exact hw
 refine zpIN func209 rfl fun h ρ w=>?_
 simp only[go_sem,d1,d2];refine zpN (hp) ?_;simp only[go_sem,d3];refine AaC (ι:=Nat) (fun i=>s.length-i) (fun i=>[(19,.int .i64 i),(18,.int .i64 s.length),(0,.str s)]) (fun _=>[]) (fun i=>i<=s.length/\(s.take i).all wdB=true) 0 (by simp) ?_ ?_
 .refine Shift.weak ?_
  simp only[go_sem]
 .rintro i ⟨g1,g2⟩ J hJ
  refine zgN ?_
  by_cases hi:(i:Int)<s.length
  .have hil:i<s.length:=by omega
   have hgd:s.getD i 0=s[i]:=by simp[List.getD,hil]
   have hfin:=fun(h:wdB s[i]=true)=>hJ (i+1) ⟨by omega,by rw[List.take_succ_eq_append_getElem hil,List.all_append,g2]; simp[h]⟩ (by omega)
   simp only[wdB]at hfin;simp only[go_sem,hi,hgd]
   repeat refine ao ?_
   refine zpN (AdO _) ?_
   cases c1:smI (s[i].toNat:Int)with
   | true =>
    have hfin:=hfin (by rw[c1]; rfl);simp only[go_sem];rw[ic i]
    repeat refine ao ?_
    refine ainv hfin (Shift.weak ?_);simp only[go_sem]
   | false =>
    simp only[go_sem,hi,hgd]
    repeat refine ao ?_
    refine zpN (AaN _) ?_
    cases c2:digI (s[i].toNat:Int)with
    | true =>
     have hfin:=hfin (by rw[c1,c2]; rfl);simp only[go_sem];rw[ic i]
     repeat refine ao ?_
     refine ainv hfin (Shift.weak ?_);simp only[go_sem]
    | false =>
     cases c3:((s[i].toNat:Int) != 39)with
     | false =>
      have hfin:=hfin (by rw[c1,c2]; simpa using c3);simp only[go_sem,hi,hgd,c3];rw[ic i]
      repeat refine ao ?_
      refine ainv hfin (Shift.weak ?_);simp only[go_sem]
     | true =>
      simp only[go_sem,hi,hgd,c3]
      repeat refine ao ?_
      exact zt [2]
  .rw [List.take_of_length_le (by omega),h4]at g2
   cases g2
def AnG:List UInt8:=[97,98,99,100,101,102,103,104,105,106,107,108,109,110,111,112,113,114,115,116,117,118,119,120,121,122,48,49,50,51,52,53,54,55,56,57,39]
def ArJ(s:List UInt8):Bool:=longR s 1 20&&(AeR s AnG&&(Lib.trimS s [39] != []))
theorem A0I(s:List UInt8)(hl:s.length<1000000):Pc prog 148 [.str s] (· = .bool (ArJ s)):=by
 have hp:=AmN s [39] (by omega) (by decide) (by unfold AcL; decide);have hm:=AdU s AnG (by omega) (by decide) (by unfold AcL AnG; decide);have hlo:=AgG s 1 20;unfold ArJ;generalize longR s 1 20=b1 at *;unfold AnG at hm;generalize hmm:AeR s _=b2 at hm;have hmm2:AeR s AnG=b2:=hmm;rw[hmm2];refine zpIB func148 rfl fun h ρ w=>?_
 simp only[go_sem];refine zpB (hlo) ?_
 cases b1 with
 | false =>
  simp only[go_sem];exact zt [2]
 | true =>
  simp only[go_sem];refine zpB (hm) ?_
  cases b2 with
  | false =>
   simp only[go_sem];exact zt [2]
  | true =>
   simp only[go_sem];refine zpB (hp) ?_;simp only[go_sem];exact zt [2]
def AeW(s:List UInt8):Bool×Bool:=if s=[63]\/s=[35] then(true,false) else if Lib.hasSuffix s [42] then(ArJ (s.take (s.length-1)),true) else((splitL s [124]).all ArJ,true)
theorem A7W{S:Std}(hS:LibOk S)(s:List UInt8)(hl:s.length<1000):PcH prog S 100 [.str s] (· = .tup [.bool (AeW s).1,.bool (AeW s).2]):=by
 have hsf:=AcA s [42] (by omega);have hsp:=AmM hS s [124] (by omega) (by decide);have hle:=AnF s 124;have hlen:(splitL s [124]).length<=100000:=by
  rw[AgJ];have:=Lib.count_le s [124];have:=AhH [124] (Lib.count s [124]) s;omega
 unfold AeW
 by_cases h1:s=[63]
 .subst h1
  refine zqIB func100 rfl fun h ρ w hg=>?_
  simp only[go_sem];exact zt [2,3]
 have d1:(s==[63])=false:=by simpa using h1
 by_cases h2:s=[35]
 .subst h2
  have d3:(([35]:List UInt8)==[63])=false:=by decide
  refine zqIB func100 rfl fun h ρ w hg=>?_
  simp only[go_sem,d3];exact zt [2,3]
 have d2:(s==[35])=false:=by simpa using h2
 rw[if_neg (by simp[h1,h2])]
 cases h3:Lib.hasSuffix s [42]with
 | true =>
  rw[h3]at hsf;have hw:=A0I (s.take (s.length-1)) (by rw[List.length_take]; omega);have hs1:1<=s.length:=by
   cases s with
   | nil=>exact absurd h3 (by decide)
   | cons a b=>simp
  rw[if_pos rfl];refine zqIB func100 rfl fun h ρ w hg=>?_
  simp only[go_sem,d1,d2];refine zpB (hsf) ?_;simp only[go_sem]
  repeat refine ao ?_
  rw[show((s.length:Int)-1).toNat=s.length-1 by omega];refine zpB (hw) ?_;simp only[go_sem];exact zt [2,3]
 | false =>
  rw[h3]at hsf;rw[if_neg (by simp)];generalize splitL s [124]=l at *;refine zqIB func100 rfl fun h ρ w hg=>?_
  simp only[go_sem,d1,d2];refine zpB (hsf) ?_;simp only[go_sem];refine zqB hg (hsp) ?_;simp only[go_sem];have hg:∀ i (h:i<l.length),(l.map AV.str).getD i .any=.str l[i]:=fun i h=>by simp[List.getD,h]
  refine AaC (ι:=Nat) (fun i=>l.length-i) (fun i=>[(23,.int .i64 i),(22,.int .i64 l.length),(21,.fz 1 (l.map .str))]) (fun _=>[]) (fun i=>i<=l.length/\(l.take i).all ArJ=true) 0 (by simp) ?_ ?_
  .refine Shift.weak ?_
   simp only[go_sem,List.length_map]
   try rfl
  rintro i ⟨g1,g2⟩ J hJ
  by_cases hi:i<l.length
  .have di:decide ((i:Int)<(l.length:Int))=true:=by simp; omega
   have hfin:=fun(h:ArJ l[i]=true)=>hJ (i+1) ⟨by omega,by rw[List.take_succ_eq_append_getElem hi,List.all_append,g2]; simp[h]⟩ (by omega)
   have p1:=hg i hi;have hw:=A0I l[i] (by have:=hle _ (List.getElem_mem hi); omega);have hbad:ArJ l[i]=false->l.all ArJ=false:=fun h=>by
    rw[List.all_eq_false];exact⟨_,List.getElem_mem hi,by simp[h]⟩
   generalize l[i]=y at *
   cases hy:ArJ y with
   | true =>
    have hfin:=hfin hy;rw[hy]at hw;refine zgB ?_;simp only[go_sem,di,p1,List.length_map]
    repeat refine aj ?_
    refine zpB (hw) ?_;simp only[go_sem]
    repeat refine aj ?_
    rw[ic i];refine ainv hfin (Shift.weak ?_);simp only[go_sem]
   | false =>
    rw[hbad hy];rw[hy]at hw;refine zgB ?_;simp only[go_sem,di,p1,List.length_map]
    repeat refine aj ?_
    refine zpB (hw) ?_;simp only[go_sem];exact zt [2,3]
  .have di:decide ((i:Int)<(l.length:Int))=false:=by simp; omega
   rw[List.take_of_length_le (by omega)]at g2;rw[g2];refine zgB ?_;simp only[go_sem,di];exact zt [2,3]
def idxS(s:List UInt8)(l:List (List UInt8)):Int:=match l.findIdx? (·==s)with|some i=>i|none=>-1
theorem BdI{s:List UInt8}{l:List (List UInt8)}{i:Nat}(h:i<l.length)(h1:(l.take i).all (· != s)=true)(h2:l[i]=s):idxS s l=i:=by
 unfold idxS;have:l.findIdx? (·==s)=some i:=by
  rw[List.findIdx?_eq_some_iff_getElem];refine⟨h,by simp[h2],fun j hj=>?_⟩;have:=List.all_eq_true.1 h1 (l[j]'(by omega)) (by rw[List.mem_take_iff_getElem]; exact⟨j,by omega,rfl⟩)
  simpa using this
 rw[this]
theorem A7X{s:List UInt8}{l:List (List UInt8)}(h1:l.all (· != s)=true):idxS s l=-1:=by
 unfold idxS;have:l.findIdx? (·==s)=none:=by
  rw[List.findIdx?_eq_none_iff];intro x hx;have:=List.all_eq_true.1 h1 x hx
  simpa using this
 rw[this]
theorem AnH(l:List (List UInt8))(s:List UInt8)(hl:l.length<1000000):Pc prog 262 [.fz 1 (l.map .str),.str s] (· = .int .i64 (idxS s l)):=by
 refine zpIB func262 rfl fun h ρ w=>?_
 simp only[go_sem,List.length_map];refine AaC (ι:=Nat) (fun i=>l.length-i) (fun i=>[(8,.int .i64 i),(7,.int .i64 l.length),(1,.str s),(0,.fz 1 (l.map .str))]) (fun _=>[]) (fun i=>i<=l.length/\(l.take i).all (· != s)=true) 0 ⟨by omega,by simp⟩ ?_ ?_
 .refine Shift.weak ?_
  simp only[go_sem]
 .rintro i ⟨g1,g2⟩ J hJ
  by_cases gi:i<l.length
  .have di:decide ((i:Int)<(l.length:Int))=true:=by simp; omega
   have hget:List.getD (l.map AV.str) i .any=.str l[i]:=by simp[List.getD,gi]
   have hst:l[i]≠s->(l.take (i+1)).all (· != s)=true:=fun h=>by
    rw[List.take_succ_eq_append_getElem gi,List.all_append,g2]
    simpa using h
   cases e:s==l[i]with
   | true =>
    refine zgB ?_;simp only[go_sem,di,hget,e,List.length_map]
    repeat refine aj ?_
    exact aret [4] rfl ⟨by rw[BdI gi g2 (by simpa using(beq_iff_eq.1 e).symm)]; rfl,rfl⟩
   | false =>
    have hfin:=hJ (i+1) ⟨by omega,hst (fun h=>by rw[h]at e; simp at e)⟩ (by omega);refine zgB ?_;simp only[go_sem,di,hget,e,List.length_map]
    repeat refine aj ?_
    rw[ic i];refine ainv hfin (Shift.weak ?_);simp only[go_sem]
  .have di:decide ((i:Int)<(l.length:Int))=false:=by simp; omega
   rw[List.take_of_length_le (by omega)]at g2;refine zgB ?_;simp only[go_sem,di];exact aret [4] rfl ⟨by rw[A7X g2]; rfl,rfl⟩
def numNames:List (List UInt8):=[[111,110,101],[116,119,111],[116,104,114,101,101],[102,111,117,114],[102,105,118,101],[115,105,120],[115,101,118,101,110],[101,105,103,104,116],[110,105,110,101],[116,101,110],[101,108,101,118,101,110],[116,119,101,108,118,101]]
theorem AiG:Pc prog 212 [.str [116,119,111]] (· = .int .i64 2):=by
 have hx:=AnH numNames [116,119,111] (by decide);rw[show idxS [116,119,111] numNames=1 by decide]at hx;simp only[numNames,List.map_cons,List.map_nil]at hx;refine AcF (AbV func212 rfl ntmps212 hB212 (by simp) fun h ρ w=>goB rfl 16 ?_);simp only[go_sem];refine AWp.shift (Shift.trans (Shift.frz 0 rfl rfl) (Shift.weakS (e':=[(3,.pin 12 [.agg (numNames.map .str)] 0 0),(0,.str [116,119,111])]) (s':=[.dead]) ⟨rfl,rfl,trivial⟩ rfl)) ?_;simp only[numNames,List.map_cons,List.map_nil];refine zgB ?_;simp only[go_sem]
 repeat refine aqh ?_
 refine zpB (hx) ?_;simp only[go_sem]
 repeat refine aqh ?_
 exact zt [2]
def itHashA:AV:=.agg [.bool false,.bool true,.bool false,.raw (.slice none 0 0)]
def itGunA:AV:=.agg [.bool false,.bool false,.bool true,.fz 1 [.str [103,117,110]]]
theorem AuJ:Pc prog 211 [itHashA,.str [116,119,111]] (· = .bool true):=by
 simp only[itHashA];refine zpIB func211 rfl fun h ρ w=>?_
 simp only[go_sem];refine zpB (AiG) ?_;simp only[go_sem];exact zt [4]
theorem AxD:Pc prog 211 [itGunA,.str [103,117,110,115]] (· = .bool true):=by
 have hp:=AfH [103,117,110,115] [103,117,110];rw[show Lib.hasPrefix [103,117,110,115] [103,117,110]=true by decide]at hp;simp only[itGunA];refine zpIB func211 rfl fun h ρ w=>?_
 simp only[go_sem]
 repeat refine aqh ?_
 refine zpB (hp) ?_;simp only[go_sem];exact zt [4]
def hitA:AV:=.agg [.int .i64 0,.int .i64 2,.int .i64 2]
theorem BdJ:Pc prog 157 [.fz 4 [itHashA,itGunA],.fz 1 [.str [116,119,111],.str [103,117,110,115]],.int .i64 0] (· = .tup [hitA,.bool true]):=by
 have h1:=AuJ;have h2:=AxD;simp only[itHashA,itGunA,hitA]at h1 h2 |-;refine zpIB func157 rfl fun h ρ w=>?_
 simp only[go_sem]
 repeat refine aqh ?_
 refine AcY (around ?_);refine zgB ?_;simp only[go_sem]
 repeat refine aqh ?_
 refine zr [.bool true] mixed ?_;simp only[go_sem]
 repeat refine And.intro (by first|exact h1.at|rfl|decide) ?_
 refine zgB ?_;simp only[go_sem]
 repeat refine aqh ?_
 refine zpB (AiG) ?_;simp only[go_sem]
 repeat refine ah ?_
 refine AsY (around ?_);refine zgB ?_;simp only[go_sem]
 repeat refine ah ?_
 refine zr [.bool true] mixed ?_;simp only[go_sem]
 repeat refine And.intro (by first|exact h2.at|rfl|decide) ?_
 refine zgB ?_;simp only[go_sem]
 repeat refine ah ?_
 refine AsY (around ?_);refine zgB ?_;simp only[go_sem]
 repeat refine ah ?_
 exact AcH [.cell 6 130,.tmp 7] rfl [_,_] ⟨by simp only[go_sem,sideIs],rfl,trivial⟩ ⟨rfl,rfl⟩
theorem BiQ:Pc prog 107 [.fz 4 [itHashA,itGunA],.fz 1 [.str [116,119,111],.str [103,117,110,115]]] (· = .fz 3 [hitA]):=by
 have h1:=BdJ;simp only[hitA]at h1 |-;refine zpIB func107 rfl fun h ρ w=>?_
 simp only[go_sem];refine AcY (around ?_);refine zgB ?_;simp only[go_sem]
 repeat refine ah ?_
 refine zpB (h1) ?_;simp only[go_sem]
 repeat refine ah ?_
 refine AsY (around ?_);refine zgB ?_;simp only[go_sem]
 repeat refine ah ?_
 refine ARet.shift (Shift.freeze 4 (id:=1) (l:=[.agg [.int .i64 0,.int .i64 2,.int .i64 2]]) rfl rfl rfl (Nat.le_refl _) rfl) (aret [4] rfl ⟨rfl,rfl⟩)
theorem A7Y{S:Std}(hr:PcH prog S 104 [.str [35,32,103,117,110,42]] (· = .tup [.fz 4 [itHashA,itGunA],.bool true])):PcH prog S 56 [.str [35,32,103,117,110,42],.str [116,119,111,32,103,117,110,115]] (· = .tup [.fz 3 [hitA],.int .i64 0]):=by
 have hw:=A0H [116,119,111,32,103,117,110,115] (by decide);rw[show wordsL [116,119,111,32,103,117,110,115]=[[116,119,111],[103,117,110,115]] by decide]at hw;simp only[List.map_cons,List.map_nil]at hw;refine zqIB func56 rfl fun h ρ w hg=>?_
 simp only[go_sem];refine zqB hg (hr) ?_;simp only[go_sem];refine zpB (hw) ?_;simp only[go_sem];refine zpB (BiQ) ?_;simp only[go_sem];exact zt [4,5]
theorem BdK{S:Std}(hr:PcH prog S 104 [.str [35,32,103,117,110,42]] (· = .tup [.fz 4 [itHashA,itGunA],.bool true])):PcH prog S 12 [] (· = .bool true):=by
 have hm:=A7Y hr;simp only[hitA]at hm;refine zqIB func12 rfl fun h ρ w hg=>?_
 simp only[go_sem];refine zqB hg (hm) ?_;simp only[go_sem]
 repeat refine aqh ?_
 exact zt [0]
