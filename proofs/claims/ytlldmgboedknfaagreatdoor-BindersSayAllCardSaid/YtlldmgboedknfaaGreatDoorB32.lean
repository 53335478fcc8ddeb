/- What pages say, and what scenes say: walked. -/
import Derived.Test.YtlldmgboedknfaaGreatDoorB31
set_option maxRecDepth 100000
set_option maxHeartbeats 4000000
set_option linter.unusedSimpArgs false
set_option linter.unusedVariables false
namespace Go.Proofs.YtlldmgboedknfaaGreatDoor
open Go Go.Av Go.RowKit _root_.Go.Proofs.Tryz
def A9I(n:Nat)(l:Ln)(i:Nat):Bool:=l != []&&(!addedL l i n&&!Lib.hasSuffix l AfQ)
theorem said_snoc(n:Nat)(x:Ln):∀ (l:List Ln)(i:Nat),saidGo n i (l++[x])=saidGo n i l++(if A9I n x (i+l.length) then[x] else[])
 | [],i=>by simp[saidGo,A9I]
 | y::r,i=>by
  have ih:=said_snoc n x r (i+1);simp only[List.cons_append,saidGo,ih,List.length_cons,show i+(r.length+1)=i+1+r.length by omega]
  by_cases hk:(y != []&&(!addedL y i n&&!Lib.hasSuffix y AfQ))=true
  .simp only [hk,if_true,List.cons_append]
  .simp only [hk,if_false]
   rfl
theorem AsT(n:Nat):∀ (l:List Ln)(i:Nat),(saidGo n i l).length<=l.length
 | [],_=>by simp[saidGo]
 | y::r,i=>by
  have ih:=AsT n r (i+1);simp only[saidGo]
  split <;> simp only[List.length_cons] <;> omega
def saidTo(ps:List (List Ln))(i:Nat):List Ln:=(ps.take i).flatMap saidP
theorem AnJ{ps:List (List Ln)}{i:Nat}(h:i<ps.length):saidTo ps (i+1)=saidTo ps i++saidP ps[i]:=by
 unfold saidTo;rw[List.take_succ_eq_append_getElem h,List.flatMap_append,List.flatMap_cons,List.flatMap_nil,List.append_nil]
theorem ApZ{ps:List (List Ln)}(h:∀ p∈ps,p.length<=54):∀ i,i<=ps.length->(saidTo ps i).length<=54*i
 | 0,_=>by simp[saidTo]
 | i+1,hi=>by
  have ih:=ApZ h i (by omega);have h2:=h _ (List.getElem_mem (show i<ps.length by omega));have h3:=AsT ps[i].length ps[i] 0;rw[AnJ (by omega),List.length_append];unfold saidP;omega
theorem BeE{St:Std}(hS:LibOk St)(ps:List (List Ln))(hp:∀ p∈ps,p.length<=54)(hl:∀ p∈ps,∀ l∈p,l.length<100000000)(hn:ps.length<=10000000000):PcH prog St 12 [.fz 1 (ps.map pgA)] (· = .fz 1 ((ps.flatMap saidP).map .str)):=by
 have hr:=AeH [32] 20 (by simp) (by omega);have hbl:=blanks_len 20;refine zqIF func12 rfl fun h ρ w hg=>?_
 simp only[go_sem,List.length_map];refine AaL (ι:=Nat) (fun i=>ps.length-i) (fun i=>[(11,.int .i64 i),(10,.int .i64 ps.length),(9,.fz 1 (ps.map pgA)),(3,.sl 0 0 (saidTo ps i).length (saidTo ps i).length)])
  (fun i=>[.arr 1 ((saidTo ps i).map .str)]) (fun i=>i<=ps.length) 0 (by omega) ?_ ?_
 .refine Shift.trans (Shift.nilsl 3 1 rfl) (Shift.weakS ?_ rfl)
  simp only[go_sem];rfl
 .intro i g1 J hJ
  by_cases gi:i<ps.length
  .have di:decide ((i:Int)<(ps.length:Int))=true:=by simp; omega
   have hg':List.getD (List.map pgA ps) i .any=.fz 1 (ps[i].map .str):=by simp[List.getD,gi,pgA]
   have fin:=hJ (i+1) (by omega) (by omega);rw[AnJ gi]at fin;have hpi:=hp _ (List.getElem_mem gi);have hli:=hl _ (List.getElem_mem gi);have hsl:=ApZ hp i g1;generalize saidTo ps i=dn at fin hsl |-;generalize hpp:ps[i]=p at hg' fin hpi hli;refine zgF ?_;simp only[go_sem,di,hg',List.length_map]
   repeat refine aqa ?_
   refine AaL (ι:=Nat) (fun k=>p.length-k) (fun k=>[(17,.int .i64 k),(16,.int .i64 p.length),(15,.fz 1 (p.map .str)),(5,.fz 1 (p.map .str)),(11,.int .i64 i),(10,.int .i64 ps.length),(9,.fz 1 (ps.map pgA)),(3,.sl 0 0 (dn.length+(saidGo p.length 0 (p.take k)).length) (dn.length+(saidGo p.length 0 (p.take k)).length))])
    (fun k=>[.arr 1 ((dn++saidGo p.length 0 (p.take k)).map .str)]) (fun k=>k<=p.length) 0 (by omega) ?_ ?_
   .refine Shift.weakS ?_ (by simp[saidGo])
    simp only[go_sem,List.take_zero,saidGo,List.length_nil,Nat.add_zero]
   .intro k g2 J2 hJ2
    by_cases gk:k<p.length
    .have dk:decide ((k:Int)<(p.length:Int))=true:=by simp; omega
     have hgk:List.getD (List.map AV.str p) k .any=.str p[k]:=by simp[List.getD,gk]
     have fin2:=hJ2 (k+1) (by omega) (by omega);rw[List.take_succ_eq_append_getElem gk,said_snoc,Nat.zero_add,show(p.take k).length=k by simp; omega]at fin2;have hlk:=hli _ (List.getElem_mem gk);have hsk:=AsT p.length (p.take k) 0;rw[show(p.take k).length=k by simp; omega]at hsk;generalize saidGo p.length 0 (p.take k)=sk at fin2 hsk |-;generalize p[k]=l at hgk fin2 hlk;refine goF rfl 25 ?_;simp only[go_sem,dk,hgk,List.length_map]
     repeat refine aqa ?_
     have hk1:((k:Int)==(p.length:Int)-1)=(k+1==p.length):=by rw[Bool.eq_iff_iff,beq_iff_eq,beq_iff_eq]; omega
     have hzk:(k==0)=((k:Int)==0):=by rw[Bool.eq_iff_iff,beq_iff_eq,beq_iff_eq]; omega
     refine acut (ι:=Unit) (fun _=>[(8,.bool (addedL l k p.length)),(7,.str l),(17,.int .i64 k),(16,.int .i64 p.length),(15,.fz 1 (p.map .str)),(5,.fz 1 (p.map .str)),(11,.int .i64 i),(10,.int .i64 ps.length),(9,.fz 1 (ps.map pgA)),(3,.sl 0 0 (dn.length+sk.length) (dn.length+sk.length))]) (fun _=>[.arr 1 ((dn++sk).map .str)]) (fun _=>True) ?_ ?_
     .intro Jc hJc
      have fc:=hJc () trivial
      cases m1:(l==Lib.repeatL [32] 20++[40,77,79,82,69,41])with
      | false =>
       have m1':(l==AcG)=false:=m1
       cases z:((k:Int)==0)with
       | false =>
        have had:addedL l k p.length=false:=by unfold addedL; rw[hzk,m1']; simp[z]
        rw[had]at fc;refine zgF ?_;simp only[go_sem]
        repeat refine aqa ?_
        refine zpF (hr) ?_;simp only[go_sem,m1,z,List.length_map]
        repeat refine aqa ?_
        refine ainv fc (Shift.weak ?_);simp only[go_sem]
       | true =>
        cases hsf:Lib.hasSuffix l AiL with
        | false =>
         have had:addedL l k p.length=false:=by unfold addedL; rw[hzk,m1',hsf]; simp
         rw[had]at fc;refine zgF ?_;simp only[go_sem]
         repeat refine aqa ?_
         refine zpF (hr) ?_;simp only[go_sem,m1,z,List.length_map]
         repeat refine aqa ?_
         refine zpF (AaF l AiL (by omega)) ?_;simp only[go_sem,hsf]
         repeat refine aqa ?_
         refine ainv fc (Shift.weak ?_);simp only[go_sem]
        | true =>
         cases hpf:Lib.hasPrefix l (Lib.repeatL [32] 20)with
         | false =>
          have had:addedL l k p.length=false:=by unfold addedL; rw[hzk,m1',hsf,<- blanks20_eq,hpf,z]; rfl
          rw[had]at fc;refine zgF ?_;simp only[go_sem]
          repeat refine aqa ?_
          refine zpF (hr) ?_;simp only[go_sem,m1,z,List.length_map]
          repeat refine aqa ?_
          refine zpF (AaF l AiL (by omega)) ?_;simp only[go_sem,hsf]
          repeat refine aqa ?_
          refine zpF (hr) ?_;simp only[go_sem]
          repeat refine aqa ?_
          refine zpF (AcU l (Lib.repeatL [32] 20)) ?_;simp only[go_sem,hpf]
          repeat refine aqa ?_
          refine ainv fc (Shift.weak ?_);simp only[go_sem]
         | true =>
          have had:addedL l k p.length=true:=by unfold addedL; rw[hzk,m1',hsf,<- blanks20_eq,hpf,z]; rfl
          rw[had]at fc;refine zgF ?_;simp only[go_sem]
          repeat refine aqa ?_
          refine zpF (hr) ?_;simp only[go_sem,m1,z,List.length_map]
          repeat refine aqa ?_
          refine zpF (AaF l AiL (by omega)) ?_;simp only[go_sem,hsf]
          repeat refine aqa ?_
          refine zpF (hr) ?_;simp only[go_sem]
          repeat refine aqa ?_
          refine zpF (AcU l (Lib.repeatL [32] 20)) ?_;simp only[go_sem,hpf]
          repeat refine aqa ?_
          refine ainv fc (Shift.weak ?_);simp only[go_sem]
      | true =>
       have m1':(l==AcG)=true:=m1
       cases m2:((k:Int)==(p.length:Int)-1)with
       | false =>
        have m2':(k+1==p.length)=false:=by rw[<- hk1,m2]
        cases z:((k:Int)==0)with
        | false =>
         have had:addedL l k p.length=false:=by unfold addedL; rw[hzk,m1',m2']; simp[z]
         rw[had]at fc;refine zgF ?_;simp only[go_sem]
         repeat refine aqa ?_
         refine zpF (hr) ?_;simp only[go_sem,m1,m2,z,List.length_map]
         repeat refine aqa ?_
         refine ainv fc (Shift.weak ?_);simp only[go_sem]
        | true =>
         cases hsf:Lib.hasSuffix l AiL with
         | false =>
          have had:addedL l k p.length=false:=by unfold addedL; rw[hzk,m1',m2',hsf]; simp
          rw[had]at fc;refine zgF ?_;simp only[go_sem]
          repeat refine aqa ?_
          refine zpF (hr) ?_;simp only[go_sem,m1,m2,z,List.length_map]
          repeat refine aqa ?_
          refine zpF (AaF l AiL (by omega)) ?_;simp only[go_sem,hsf]
          repeat refine aqa ?_
          refine ainv fc (Shift.weak ?_);simp only[go_sem]
         | true =>
          cases hpf:Lib.hasPrefix l (Lib.repeatL [32] 20)with
          | false =>
           have had:addedL l k p.length=false:=by unfold addedL; rw[hzk,m1',m2',hsf,<- blanks20_eq,hpf,z]; rfl
           rw[had]at fc;refine zgF ?_;simp only[go_sem]
           repeat refine aqa ?_
           refine zpF (hr) ?_;simp only[go_sem,m1,m2,z,List.length_map]
           repeat refine aqa ?_
           refine zpF (AaF l AiL (by omega)) ?_;simp only[go_sem,hsf]
           repeat refine aqa ?_
           refine zpF (hr) ?_;simp only[go_sem]
           repeat refine aqa ?_
           refine zpF (AcU l (Lib.repeatL [32] 20)) ?_;simp only[go_sem,hpf]
           repeat refine aqa ?_
           refine ainv fc (Shift.weak ?_);simp only[go_sem]
          | true =>
           have had:addedL l k p.length=true:=by unfold addedL; rw[hzk,m1',m2',hsf,<- blanks20_eq,hpf,z]; rfl
           rw[had]at fc;refine zgF ?_;simp only[go_sem]
           repeat refine aqa ?_
           refine zpF (hr) ?_;simp only[go_sem,m1,m2,z,List.length_map]
           repeat refine aqa ?_
           refine zpF (AaF l AiL (by omega)) ?_;simp only[go_sem,hsf]
           repeat refine aqa ?_
           refine zpF (hr) ?_;simp only[go_sem]
           repeat refine aqa ?_
           refine zpF (AcU l (Lib.repeatL [32] 20)) ?_;simp only[go_sem,hpf]
           repeat refine aqa ?_
           refine ainv fc (Shift.weak ?_);simp only[go_sem]
       | true =>
        have m2':(k+1==p.length)=true:=by rw[<- hk1,m2]
        have had:addedL l k p.length=true:=by unfold addedL; rw[m1',m2']; rfl
        rw[had]at fc;refine zgF ?_;simp only[go_sem]
        repeat refine aqa ?_
        refine zpF (hr) ?_;simp only[go_sem,m1,m2,List.length_map]
        repeat refine aqa ?_
        refine ainv fc (Shift.weak ?_);simp only[go_sem]
     .rintro ⟨⟩ _
      have hka:A9I p.length l k=(l != []&&(!addedL l k p.length&&!Lib.hasSuffix l AfQ)):=rfl
      cases e1:(l != [])with
      | false =>
       rw[hka,e1,Bool.false_and,if_neg (by simp),List.append_nil]at fin2;refine zgF ?_;simp only[go_sem,e1]
       repeat refine aqa ?_
       rw[ic k];refine ainv fin2 (Shift.weakS ?_ rfl);simp only[go_sem]
      | true =>
       cases e2:addedL l k p.length with
       | true =>
        rw[hka,e1,e2,if_neg (by simp),List.append_nil]at fin2;refine zgF ?_;simp only[go_sem,e1,e2]
        repeat refine aqa ?_
        rw[ic k];refine ainv fin2 (Shift.weakS ?_ rfl);simp only[go_sem]
       | false =>
        cases e3:Lib.hasSuffix l AfQ with
        | true =>
         rw[hka,e1,e2,e3,if_neg (by simp),List.append_nil]at fin2;refine zgF ?_;simp only[go_sem,e1,e2]
         repeat refine aqa ?_
         refine zpF (AaF l AfQ (by omega)) ?_;simp only[go_sem,e3]
         repeat refine aqa ?_
         rw[ic k];refine ainv fin2 (Shift.weakS ?_ rfl);simp only[go_sem]
        | false =>
         rw[hka,e1,e2,e3,if_pos (by simp)]at fin2;refine zgF ?_;simp only[go_sem,e1,e2]
         repeat refine aqa ?_
         refine zpF (AaF l AfQ (by omega)) ?_;simp only[go_sem,e3,List.length_map,List.length_append]
         repeat refine aqa ?_
         rw[ic k];refine ainv fin2 ?_;refine Shift.weakS ?_ (by simp);simp only[go_sem,List.length_append,List.length_cons,List.length_nil,Nat.add_assoc]
    .have dk:decide ((k:Int)<(p.length:Int))=false:=by simp; omega
     have hk:k=p.length:=by omega
     subst hk;rw[List.take_length];refine zgF ?_;simp only[go_sem,dk]
     repeat refine aqa ?_
     rw[ic i];refine ainv fin ?_;refine Shift.weakS ?_ rfl;simp only[go_sem,saidP,List.length_append]
  .have di:decide ((i:Int)<(ps.length:Int))=false:=by simp; omega
   have hi:i=ps.length:=by omega
   subst hi;have ha:saidTo ps ps.length=ps.flatMap saidP:=by unfold saidTo; rw[List.take_length]
   rw[ha];refine zgF ?_;simp only[go_sem,di];exact ARet.shift (Shift.freeze 2 (id:=0) rfl rfl (by simp) (Nat.le_refl _) (AgN _)) (aret [2] rfl ⟨by simp only[resV,Av.get,put,go_sem]; simp[List.take_of_length_le],rfl⟩)
def sizB(b:Bl):Prop:=b.name.length<=2000/\∀ l∈b.lines,l.length<=3000000
theorem AjS(n:Nat)(l:List UInt8):(indent n l).length=n+l.length:=by
 rw[indent,List.length_append,blanks_len]
theorem BeF{p:Pa}(h:p.text.length<=2000):sizB (newB p):=by
 unfold newB
 split
 .exact ⟨by simp,fun l hl=>by have:=(AbY 60 p.text).2 l hl; omega⟩
 .split
  .refine ⟨by simp,fun l hl=>?_⟩
   rw[List.mem_singleton.1 hl,turnLine,List.length_append,blanks_len,List.length_append]
   simp; omega
  .refine ⟨h,fun l hl=>?_⟩
   rw[List.mem_singleton.1 hl,AjS]; omega
theorem A9J{b:Bl}{p:Pa}(hb:sizB b)(h:p.text.length<=2000):sizB (moreB b p):=by
 have key:∀ (kd:Int) (n:Nat) (ls:List (List UInt8)),n<=20->(∀ l∈ls,l.length<=2010)->sizB (addB b kd n ls):=fun kd n ls hn hl=>by
  refine⟨hb.1,fun l hq=>?_⟩;simp only[addB]at hq
  rcases List.mem_append.1 hq with hq|hq
  .exact hb.2 l hq
  .obtain ⟨m,hm,rfl⟩:=List.mem_map.1 hq
   rw[AjS];have:=hl m hm;omega
 unfold moreB
 split
 .refine key _ _ _ (by omega) fun l hl=>?_
  have:=(AbY 30 (AfD p.text)).2 l hl
  simp[AfD]at this; omega
 .refine key _ _ _ (by omega) fun l hl=>?_
  have:=(AbY 35 p.text).2 l hl;omega
theorem AqA{x:Sc}(h:LineOk x):∀ b∈blocksL x,sizB b:=by
 obtain⟨e,hr,_,_⟩:=h.sc.run;have ht:∀ p∈x.paras,p.text.length<=2000:=fun p hp=>AsG (AyK _ _ _ hr p hp)
 have hh:=h.head;have h0:sizB ⟨0,AbE 60 (headL x),[],[]⟩:=⟨by simp,fun l hl=>by have:=(AbY 60 (headL x)).2 l hl; omega⟩;have hi:(∀ b∈(blocksS x).1,sizB b)/\sizB (blocksS x).2:=AiN (P:=fun(s:List Bl×Bl)=>(∀ b∈s.1,sizB b)/\sizB s.2) (Q:=fun(p:Pa)=>p.text.length<=2000) (fun s p h1 h2=>by
  unfold bstep
  split
  .exact ⟨h1.1,A9J h1.2 h2⟩
  .refine ⟨fun b hb=>?_,BeF h2⟩
   rcases List.mem_append.1 hb with hb|hb
   .exact h1.1 b hb
   .rw [List.mem_singleton.1 hb]; exact h1.2) _ _ ⟨by simp,h0⟩ ht
 intro b hb;unfold blocksL at hb
 rcases List.mem_append.1 hb with hb|hb
 .exact hi.1 b hb
 .rw [List.mem_singleton.1 hb]; exact hi.2
theorem A9K{x:Sc}(h:LineOk x):∀ l∈linesL x,l.length<=3000000:=fun l hl=>by
 unfold linesL at hl;obtain⟨ls,h1,h2⟩:=List.mem_flatten.1 hl;obtain⟨b,hb,rfl⟩:=List.mem_map.1 h1;unfold blockLines at h2
 rcases List.mem_append.1 h2 with h2|h2
 .rw [List.eq_of_mem_replicate h2]; simp
 .exact (AqA h b hb).2 l h2
theorem AyR{St:Std}(hS:LibOk St)(x:Sr)(hx:ScriptOk x)(k:Nat)(hk:k<x.scenes.length):PcH prog St 34 [srA x,.int .i64 (k:Int)] (· = .tup [.fz 1 ((linesL x.scenes[k]).map .str),.int .i64 0]):=by
 have hck:=AdI hS x hx;have hli:=A8R hS x.scenes[k] (AsK _ _ _ hx.ok hx.many _ (List.getElem_mem hk));have hlen:=hx.len;obtain⟨ti,xs⟩:=x;simp only at hk hlen hli;have hg':List.getD (List.map scA xs) k .any=.agg [.str xs[k].no,.int .i64 xs[k].place,.str xs[k].set,.int .i64 xs[k].time,.fz 2 (xs[k].paras.map paA)]:=by simp[List.getD,hk,scA]
 have d0:decide ((k:Int)<0)=false:=by simp
 have d1:decide ((k:Int)>=(xs.length:Int))=false:=by simp; omega
 simp only[srA,scA]at hck hli |-;refine zqIF func34 rfl fun h ρ w hg=>?_
 simp only[go_sem];refine zqF hg (hck) ?_;simp only[go_sem,d0,d1,hg',List.length_map]
 repeat refine aqa ?_
 refine zqF hg (hli) ?_;simp only[go_sem];exact zt [4,5]
def spokenTo(xs:List Sc)(i:Nat):List Ln:=((xs.take i).flatMap linesL).filter keepL
theorem AiP{xs:List Sc}{i:Nat}(h:i<xs.length):spokenTo xs (i+1)=spokenTo xs i++(linesL xs[i]).filter keepL:=by
 unfold spokenTo;rw[List.take_succ_eq_append_getElem h,List.flatMap_append,List.flatMap_cons,List.flatMap_nil,List.append_nil,List.filter_append]
theorem AfT{xs:List Sc}(h:∀ x∈xs,(linesL x).length<=44100000000):∀ i,i<=xs.length->(spokenTo xs i).length<=44100000000*i
 | 0,_=>by simp[spokenTo]
 | i+1,hi=>by
  have ih:=AfT h i (by omega);have h2:=h _ (List.getElem_mem (show i<xs.length by omega));have h3:=List.length_filter_le keepL (linesL xs[i]);rw[AiP (by omega),List.length_append];omega
theorem A4F{St:Std}(hS:LibOk St)(x:Sr)(hx:ScriptOk x)(h5:x.scenes.length<=20):PcH prog St 9 [srA x] (· = .tup [.fz 1 (((x.scenes.flatMap linesL).filter keepL).map .str),.bool true]):=by
 have hlk:=AsK _ _ _ hx.ok hx.many;have hlo:=fun k hk=>AyR hS x hx k hk
 obtain⟨ti,xs⟩:=x;simp only at h5 hlk hlo;have hbd:=AfT (fun y hy=>(hlk y hy).lines);simp only[srA]at hlo |-;refine zqIF func9 rfl fun h ρ w hg=>?_
 simp only[go_sem,List.length_map];refine AaL (ι:=Nat) (fun i=>xs.length-i) (fun i=>[(13,.int .i64 i),(12,.int .i64 xs.length),(4,.sl 1 0 (spokenTo xs i).length (spokenTo xs i).length),(1,.ptr 0 1 0 0)])
  (fun i=>[.arr 2 [.agg [.str ti,.fz 5 (xs.map scA)]],.arr 1 ((spokenTo xs i).map .str)]) (fun i=>i<=xs.length) 0 (by omega) ?_ ?_
 .refine Shift.trans (Shift.nilsl 4 1 rfl) (Shift.weakS ?_ rfl)
  simp only[go_sem];rfl
 .intro i g1 J hJ
  by_cases gi:i<xs.length
  .have di:decide ((i:Int)<(xs.length:Int))=true:=by simp; omega
   have hlo':=hlo i gi;have fin:=hJ (i+1) (by omega) (by omega);rw[AiP gi]at fin;have hsl:=hbd i g1;have hll:=(hlk _ (List.getElem_mem gi)).lines;have hls:=A9K (hlk _ (List.getElem_mem gi));generalize spokenTo xs i=dn at fin hsl |-;generalize linesL xs[i]=p at hlo' fin hll hls;refine zgF ?_;simp only[go_sem,di,List.length_map]
   repeat refine aqa ?_
   refine zqF hg (hlo') ?_;simp only[go_sem,List.length_map]
   repeat refine aqa ?_
   refine AaL (ι:=Nat) (fun k=>p.length-k) (fun k=>[(26,.int .i64 k),(25,.int .i64 p.length),(24,.fz 1 (p.map .str)),(13,.int .i64 i),(12,.int .i64 xs.length),(4,.sl 1 0 (dn.length+((p.take k).filter keepL).length) (dn.length+((p.take k).filter keepL).length)),(1,.ptr 0 1 0 0)])
    (fun k=>[.arr 2 [.agg [.str ti,.fz 5 (xs.map scA)]],.arr 1 ((dn++(p.take k).filter keepL).map .str)]) (fun k=>k<=p.length) 0 (by omega) ?_ ?_
   .refine Shift.weakS ?_ (by simp)
    simp only[go_sem,List.take_zero,List.filter_nil,List.length_nil,Nat.add_zero]
   .intro k g2 J2 hJ2
    by_cases gk:k<p.length
    .have dk:decide ((k:Int)<(p.length:Int))=true:=by simp; omega
     have hgk:List.getD (List.map AV.str p) k .any=.str p[k]:=by simp[List.getD,gk]
     have fin2:=hJ2 (k+1) (by omega) (by omega);rw[List.take_succ_eq_append_getElem gk,List.filter_append,List.filter_cons]at fin2;have hlk2:=hls _ (List.getElem_mem gk);have hsk:=List.length_filter_le keepL (p.take k);rw[show(p.take k).length=k by simp; omega]at hsk;generalize (p.take k).filter keepL=sk at fin2 hsk |-;generalize p[k]=l at hgk fin2 hlk2;have hka:keepL l=(l != []&&!Lib.hasSuffix l AfQ):=rfl
     cases e1:(l != [])with
     | false =>
      rw[hka,e1,Bool.false_and,if_neg (by simp),List.filter_nil,List.append_nil]at fin2;refine zgF ?_;simp only[go_sem,dk,hgk,e1,List.length_map]
      repeat refine aqa ?_
      rw[ic k];refine ainv fin2 (Shift.weakS ?_ rfl);simp only[go_sem]
     | true =>
      cases e3:Lib.hasSuffix l AfQ with
      | true =>
       rw[hka,e1,e3,if_neg (by simp),List.filter_nil,List.append_nil]at fin2;refine zgF ?_;simp only[go_sem,dk,hgk,e1,List.length_map]
       repeat refine aqa ?_
       refine zpF (AaF l AfQ (by omega)) ?_;simp only[go_sem,e3]
       repeat refine aqa ?_
       rw[ic k];refine ainv fin2 (Shift.weakS ?_ rfl);simp only[go_sem]
      | false =>
       rw[hka,e1,e3,if_pos (by simp),List.filter_nil]at fin2;refine zgF ?_;simp only[go_sem,dk,hgk,e1,List.length_map]
       repeat refine aqa ?_
       refine zpF (AaF l AfQ (by omega)) ?_;simp only[go_sem,e3,List.length_map,List.length_append]
       repeat refine aqa ?_
       rw[ic k];refine ainv fin2 ?_;refine Shift.weakS ?_ (by simp);simp only[go_sem,List.length_append,List.length_cons,List.length_nil,Nat.add_assoc]
    .have dk:decide ((k:Int)<(p.length:Int))=false:=by simp; omega
     have hk:k=p.length:=by omega
     subst hk;rw[List.take_length];refine zgF ?_;simp only[go_sem,dk]
     repeat refine aqa ?_
     rw[ic i];refine ainv fin ?_;refine Shift.weakS ?_ rfl;simp only[go_sem,List.length_append]
  .have di:decide ((i:Int)<(xs.length:Int))=false:=by simp; omega
   have hi:i=xs.length:=by omega
   subst hi;have ha:spokenTo xs xs.length=(xs.flatMap linesL).filter keepL:=by unfold spokenTo; rw[List.take_length]
   rw[ha];refine zgF ?_;simp only[go_sem,di];exact ARet.shift (Shift.freeze 2 (id:=1) rfl rfl (by simp) (Nat.le_refl _) (AgN _)) (aret [2,3] rfl ⟨by simp only[resV,Av.get,put,go_sem]; simp[List.take_of_length_le],rfl⟩)
theorem AyS{bs:List Bl}(h:∀ b∈bs,b.lines.length<=11000000):∀ i,i<=bs.length->costTo bs i<=11000001*i
 | 0,_=>by simp[costTo]
 | i+1,hi=>by
  have ih:=AyS h i (by omega);have h2:=h _ (List.getElem_mem (show i<bs.length by omega));rw[AhQ (by omega)];omega
theorem AqB{b:Bl}(ho:∀ x∈b.lines,OwnLn x):∀ (f fr:Nat)(s:LS)(w:List Ln),PInv s w->b.lines.length-fr<f->fr<=b.lines.length->AhB b fr (54-s.page.length)->(AbS b f fr s).pages.length<=s.pages.length+(b.lines.length-fr)
 | 0,fr,s,w,_,h,_,_=>by omega
 | f+1,fr,s,w,h,hf,hfr,hr=>by
  unfold AbS
  by_cases hne:stopL b fr (54-s.page.length)=b.lines.length
  .rw [if_pos hne]
   simp only[addS]; omega
  .rw [if_neg hne]
   obtain⟨h1,h2,⟨w',h3⟩,h4⟩:=ApY ho h hfr hr hne;generalize stopL b fr (54-s.page.length)=tz at h1 h2 h3 h4 |-;have:=AqB ho f tz _ _ h3 (by omega) (by omega) h4;have e:(breakS b (addS s (partL' b fr tz))).pages.length=s.pages.length+1:=by simp[breakS,addS,flushS]
   omega
theorem AnK{bs:List Bl}(ho:∀ b∈bs,∀ x∈b.lines,OwnLn x):∀ i,i<=bs.length->(layTo bs i).pages.length<=costTo bs i
 | 0,_=>by simp[layTo]
 | i+1,hi=>by
  have ih:=AnK ho i (by omega);have hl:i<bs.length:=by omega
  obtain⟨w,h1,_⟩:=AsN ho i (by omega);obtain⟨g,_,h2,h3⟩:=AsM (bs:=bs) (i:=i) (b:=bs[i]) h1;have h4:=AqB (ho _ (List.getElem_mem hl)) (bs[i].lines.length+1) 0 _ _ h2 (by omega) (by omega) h3;have h5:=(AvQ bs i bs[i] (layTo bs i)).1;have h6:(openS bs i bs[i] (layTo bs i)).pages.length=(turnS bs i bs[i] (layTo bs i)).pages.length:=by
   simp only[openS,gapS,firstS]
   split <;> rfl
  simp only[layTo,List.getElem?_eq_getElem hl];rw[AhQ hl];omega
theorem BeG(bs:List Bl)(ho:∀ b∈bs,∀ x∈b.lines,OwnLn x):(layL bs).pages.length<=costTo bs bs.length+1:=by
 have:=AnK ho bs.length (Nat.le_refl _);unfold layL
 split
 .simp [flushS]; omega
 .omega
theorem AnL:∀ (ps:List Pa)(s:List Bl×Bl),(ps.foldl bstep s).1.length<=s.1.length+ps.length
 | [],s=>by simp
 | p::r,s=>by
  have ih:=AnL r (bstep s p);have:(bstep s p).1.length<=s.1.length+1:=by
   unfold bstep
   split
   .simp
   .simp
  simp only[List.foldl_cons,List.length_cons];omega
theorem A9L(x:Sc):(blocksL x).length<=x.paras.length+1:=by
 have:=AnL x.paras ([],⟨0,AbE 60 (headL x),[],[]⟩);simp only[List.length_nil,Nat.zero_add]at this;unfold blocksL blocksS;simp only[List.length_append,List.length_cons,List.length_nil];omega
def qL(l:Ln):Prop:=l.length<=3000100
def qS(s:LS):Prop:=(∀ p∈s.pages,∀ l∈p,qL l)/\∀ l∈s.page,qL l
theorem AyT{s:LS}(h:qS s):qS (flushS s):=by
 refine⟨fun p hp=>?_,by simp[flushS]⟩;simp only[flushS,List.mem_append,List.mem_singleton]at hp
 rcases hp with hp|rfl
 .exact h.1 p hp
 .exact h.2
theorem BeH{s:LS}(h:qS s){l:List Ln}(hl:∀ x∈l,qL x):qS (addS s l):=by
 refine⟨h.1,fun x hx=>?_⟩;simp only[addS,List.mem_append]at hx
 rcases hx with hx|hx
 .exact h.2 x hx
 .exact hl x hx
theorem BlV:qL AcG:=by unfold qL; decide
theorem BlW{b:Bl}(h:b.name.length<=2000):qL (goesLn b):=by
 unfold qL goesLn;rw[List.length_append,AjS]
 simp[AiL]; omega
theorem BjJ{b:Bl}(hn:b.name.length<=2000){s:LS}(h:qS s):qS (breakS b s):=by
 unfold breakS;refine BeH (AyT (BeH h fun x hx=>?_)) fun x hx=>?_
 .split at hx
  .rw [List.mem_singleton.1 hx]; exact BlV
  .simp at hx
 .split at hx
  .rw [List.mem_singleton.1 hx]; exact BlW hn
  .simp at hx
theorem A9M{b:Bl}(hb:sizB b):∀ (f fr:Nat)(s:LS),qS s->qS (AbS b f fr s)
 | 0,_,s,h=>h
 | f+1,fr,s,h=>by
  have hp:∀ tz,∀ x∈partL' b fr tz,qL x:=fun tz x hx=>by
   have:=hb.2 x (List.mem_of_mem_take (List.mem_of_mem_drop hx));unfold qL; omega
  unfold AbS
  split
  .exact BeH h (hp _)
  .exact A9M hb f _ _ (BjJ hb.1 (BeH h (hp _)))
theorem BlX{bs:List Bl}{i:Nat}{b:Bl}{s:LS}(h:qS s):qS (openS bs i b s):=by
 have h1:qS (turnS bs i b s):=by unfold turnS; split; exact AyT h; exact h
 have h2:qS (firstS i (turnS bs i b s)):=by unfold firstS; split; exact⟨h1.1,h1.2⟩; exact h1
 unfold openS gapS;refine⟨h2.1,fun x hx=>?_⟩;simp only[List.mem_append]at hx
 rcases hx with hx|hx
 .exact h2.2 x hx
 .rw [List.eq_of_mem_replicate hx]; unfold qL; simp
theorem BlY{bs:List Bl}(hb:∀ b∈bs,sizB b):∀ i,i<=bs.length->qS (layTo bs i)
 | 0,_=>⟨by simp[layTo],by simp[layTo]⟩
 | i+1,hi=>by
  have hl:i<bs.length:=by omega
  simp only[layTo,List.getElem?_eq_getElem hl];exact A9M (hb _ (List.getElem_mem hl)) _ _ _ (BlX (BlY hb i (by omega)))
