/- The library contracts laid at this seat, in the plain words that a tool of the kit has. -/
import Derived.Shelf.Strings.IndexAnyAll
import Derived.Shelf.Strings.SlTrimAscii
import Derived.Shelf.Strconv.AtoiErr
import Derived.Test.YtmhjbljckkgeoaaGreatDoorC12
namespace Go.Proofs
open Shelf Proofs.Tryz
def Tryz.lays150_ren:Go.Shelf.Ren:=⟨fun|150=>166|153=>230|152=>286|226=>287|227=>184|228=>249|137=>200|119=>313|224=>247|225=>246|217=>245|266=>294|n=>n,fun|9=>9|4=>4|3=>3|5=>5|21=>21|117=>215|116=>214|0=>0|46=>207|124=>218|n=>n,fun|n=>n⟩
theorem Tryz.lays150:Go.Proofs.Lays.n150 prog Tryz.lays150_ren:=by constructor <;> intros <;> kernel_rfl
def Tryz.lays160_ren:Go.Shelf.Ren:=⟨fun|160=>128|232=>187|231=>183|227=>184|234=>188|233=>185|236=>189|235=>186|228=>249|271=>252|151=>251|197=>250|120=>297|152=>286|260=>296|137=>200|119=>313|224=>247|225=>246|217=>245|266=>294|n=>n,fun|9=>9|4=>4|3=>3|5=>5|117=>215|116=>214|0=>0|124=>218|21=>21|105=>265|46=>207|119=>278|139=>327|138=>326|n=>n,fun|3=>6|4=>7|n=>n⟩
theorem Tryz.lays160:Go.Proofs.Lays.n160 prog Tryz.lays160_ren:=by constructor <;> intros <;> kernel_rfl
def Tryz.lays161_ren:Go.Shelf.Ren:=⟨fun|161=>127|231=>183|227=>184|233=>185|235=>186|228=>249|197=>250|151=>251|260=>296|152=>286|137=>200|119=>313|224=>247|225=>246|217=>245|266=>294|n=>n,fun|9=>9|4=>4|3=>3|5=>5|117=>215|116=>214|0=>0|124=>218|105=>265|21=>21|119=>278|46=>207|139=>327|138=>326|n=>n,fun|3=>6|4=>7|n=>n⟩
theorem Tryz.lays161:Go.Proofs.Lays.n161 prog Tryz.lays161_ren:=by constructor <;> intros <;> kernel_rfl
def Tryz.laysC172_ren:Go.Shelf.Ren:=⟨fun|172=>78|244=>129|245=>130|247=>190|279=>191|280=>192|281=>193|282=>194|287=>253|316=>254|171=>106|205=>255|321=>298|322=>299|243=>157|246=>221|283=>280|284=>281|285=>282|286=>283|129=>240|317=>307|318=>308|319=>309|320=>310|337=>321|338=>322|n=>n,fun|9=>9|3=>3|75=>119|76=>120|4=>4|5=>5|167=>219|37=>177|0=>0|85=>220|2=>2|168=>222|53=>259|175=>268|46=>207|210=>272|127=>229|145=>308|143=>306|21=>21|171=>289|173=>291|212=>317|51=>257|20=>20|213=>318|232=>343|233=>344|80=>96|n=>n,fun|15=>1|16=>2|17=>5|18=>8|19=>9|n=>n⟩
theorem Tryz.laysC172:Go.Proofs.LaysC.n172 prog Tryz.laysC172_ren:=by constructor <;> intros <;> first|kernel_rfl|(constructor <;> intros <;> first|kernel_rfl|(constructor <;> intros <;> kernel_rfl))
end Go.Proofs
set_option maxRecDepth 100000
set_option linter.all false
namespace Go.Proofs.YtmhjbljckkgeoaaGreatDoor
open Av RowKit Proofs.Tryz
theorem A0K{f:FuncId}{args:LY}{r:AV}(vs:List Value)(v:Value)(hb:AaA prog f=true)(ha:∀ h vs',RL h Lf0 true vs' args->vs'=vs)(hr:∀ h,RV h Lf0 true v r)
  (H:∀ w,Calls prog f vs.toArray w fun e w'=>e=.returned v/\Below w.heap.size w w'):Pc prog f args (· = r):=by
 refine⟨hb,fun h w vs' hm hv=>?_⟩;have:=ha h vs' hv;subst this;refine(H w).mono ?_;rintro e w' ⟨rfl,hs⟩;have hs:Same w w':=⟨hs.os,hs.tape,⟨hs.output,trivial⟩,hs.size,hs.block⟩;exact⟨v,r,h,rfl,rfl,fun b o v e=>⟨hs.cell (hm b o v e).1,(hm b o v e).2⟩,fun _ _ _ x=>x,fun b o e n=>(n e).elim,hs,hr h⟩
def AeA(s:LU):Prop:=∀ b∈s,b.toNat<128
theorem AiT{s:LU}(h:AeA s):∀ (j:Nat) b,(⟨s.toArray⟩:ByteArray).data.toList[j]? = some b->b.toNat<128:=fun j b hb=>h b (lar hb)
theorem AbS{s:LU}(h:s.all (fun b=>decide (b.toNat<128))=true):AeA s:=fun b hb=>of_decide_eq_true (List.all_eq_true.1 h b hb)
theorem A3Y{s:LU}(h:s.all okB=true):AeA s:=fun b hb=>by
 grind[okB]
theorem BvT:(prog.info? (Tryz.lays150_ren.t 116)).map (fun i=>(i.zero,i.size))=some (some (.agg (Array.replicate 256 (.bool false))),256):=by kernel_rfl
theorem BvU:(prog.info? (Tryz.lays160_ren.t 116)).map (fun i=>(i.zero,i.size))=some (some (.agg (Array.replicate 256 (.bool false))),256):=by kernel_rfl
theorem BvV:(prog.info? (Tryz.lays161_ren.t 116)).map (fun i=>(i.zero,i.size))=some (some (.agg (Array.replicate 256 (.bool false))),256):=by kernel_rfl
theorem AhL(s p:LU)(hs:s.length<4294967281)(hp:p.length<4294967281)(h1:AeA s)(h2:AeA p):Pc prog 166 [.str s,.str p] (· = .bool (Lib.containsAny s p)) :=
 A0K [_,_] (.bool (Lib.containsAny s p)) hB166 (AcA s p) (fun h=>.bool _) fun w=>Any.strings_ContainsAny_laid Tryz.lays150 BvT ⟨s.toArray⟩ ⟨p.toArray⟩ w hs hp (AiT h1) (AiT h2)
theorem A0L(s p:LU)(hs:s.length<4294967281)(hp:p.length<4294967281)(h2:AeA p):Pc prog 128 [.str s,.str p] (· = .str (Lib.trimS s p)) :=
 A0K [_,_] (.string ⟨(Lib.trimS s p).toArray⟩) hB128 (AcA s p) (fun h=>.str _) fun w=>Any.strings_Trim_laid Tryz.lays160 BvU ⟨s.toArray⟩ ⟨p.toArray⟩ w (show s.length<=_ by omega) hp (AiT h2)
theorem AnC(s p:LU)(hp:p.length<4294967281)(h2:AeA p):Pc prog 127 [.str s,.str p] (· = .str (Lib.trimLeftS s p)) :=
 A0K [_,_] (.string ⟨(Lib.trimLeftS s p).toArray⟩) hB127 (AcA s p) (fun h=>.str _) fun w=>Any.strings_TrimLeft_laid Tryz.lays161 BvV ⟨s.toArray⟩ ⟨p.toArray⟩ w hp (AiT h2)
def A7E(c:UInt8):Bool:=capI c.toNat||(((c.toNat:Int)==32)||((c.toNat:Int)==46))
def isTurnL(s:LU):Bool:=s.all A7E&&decide ((s.length:Int)<=40)
theorem BbJ(s:LU)(hs:s.length<1000000):Pc prog 167 [.str s] (· = .bool (isTurnL s)):=by
 refine zpIN func167 rfl fun h ρ w=>?_
 simp only[go_sem];refine AaC (ι:=Nat) (fun i=>s.length-i) (fun i=>[(6,.int .i64 i),(5,.int .i64 s.length),(0,.str s)]) (fun _=>[]) (fun i=>i<=s.length/\(s.take i).all A7E=true) 0 ⟨by omega,by simp⟩ ?_ ?_
 .refine Ls ?_
  simp only[go_sem]
 .rintro i ⟨g1,g2⟩ J hJ
  apply zgN
  by_cases hi:i<s.length
  .have d1:decide ((i:Int)<(s.length:Int))=true:=by simp; omega
   have hx:s.getD i 0=s[i]:=by simp[List.getD,hi]
   simp only[go_sem,d1,hx];refine⟨by omega,by simpa using hi,?_⟩;refine zpN (AbG _) ?_;have bad:A7E s[i]=false->isTurnL s=false:=fun h=>by simp only[isTurnL,all_false_at hi h,lce]
   have again:A7E s[i]=true->(s.take (i+1)).all A7E=true:=fun h=>AaK hi g2 h
   have e1:(i:Int)+1=((i+1:Nat):Int):=by omega
   unfold A7E at bad again
   cases q1:capI s[i].toNat with
   | true =>
    simp only[go_sem];rw[e1]
    repeat refine ao ?_
    refine ainv (hJ (i+1) ⟨by omega,again (by rw[q1]; rfl)⟩ (by omega)) (Ls ?_);simp only[go_sem]
   | false =>
    cases q2:((s[i].toNat:Int)==32)with
    | true =>
     have q2':((s[i].toNat:Int) != 32)=false:=by rw[bne,q2]; rfl
     simp only[go_sem,q2',hx];rw[e1]
     repeat refine ao ?_
     refine ainv (hJ (i+1) ⟨by omega,again (by rw[q1,q2]; rfl)⟩ (by omega)) (Ls ?_);simp only[go_sem]
    | false =>
     have q2':((s[i].toNat:Int) != 32)=true:=by rw[bne,q2]; rfl
     cases q3:((s[i].toNat:Int)==46)with
     | true =>
      have q3':((s[i].toNat:Int) != 46)=false:=by rw[bne,q3]; rfl
      simp only[go_sem,q2',q3',hx];rw[e1]
      repeat refine ao ?_
      refine ainv (hJ (i+1) ⟨by omega,again (by rw[q1,q2,q3]; rfl)⟩ (by omega)) (Ls ?_);simp only[go_sem]
     | false =>
      have q3':((s[i].toNat:Int) != 46)=true:=by rw[bne,q3]; rfl
      simp only[go_sem,q2',q3',hx]
      repeat refine ao ?_
      exact aret [2] rfl ⟨by rw[bad (by rw[q1,q2,q3]; rfl)]; rfl,rfl⟩
  .have d1:decide ((i:Int)<(s.length:Int))=false:=by simp; omega
   have:i=s.length:=by omega
   subst this;simp only[go_sem,d1];refine aret [2] rfl ⟨?_,rfl⟩;rw[lap]at g2
   simp[resV,Av.get,isTurnL,g2]
def BvW(s:LU):Bool:=properL s 30 [39,46,45]
theorem A7F{S:Std}(hS:LibOk S)(s:LU)(hs:s.length<1000000):PcH prog S 165 [.str s] (· = .bool (BvW s)):=by
 refine zqIN func165 rfl fun h ρ w hg=>?_
 simp only[go_sem];refine zqN hg (AqN hS s 30 _ hs) ?_;simp only[go_sem];exact zt [2]
def followsL(k l:Int):Bool:=if k==3 then l==2||l==4 else if k==4 then l==2||(l==3||l==4) else l != 2&&l != 3
theorem A7G(k l:Int):Pc prog 121 [.int .i64 k,.int .i64 l] (· = .bool (followsL k l)):=by
 refine zpIN func121 rfl fun h ρ w=>?_
 unfold followsL
 cases q3:k==3 with
 | true =>
  cases q:l==2 <;>
  .simp only [go_sem,q3,q]
   exact zt [4]
 | false =>
  cases q4:k==4 with
  | true =>
   cases q:l==2 <;> cases q':l==3 <;>
   .simp only [go_sem,q3,q4,q,q']
    exact zt [4]
  | false =>
   cases q:l != 2 <;>
   .simp only [go_sem,q3,q4,q]
    exact zt [4]
structure Pa where
 kind:Int
 text:LU
structure Sc where
 no:LU
 place:Int
 set:LU
 time:Int
 Ld:List Pa
structure Sr where
 Lk:LU
 Lc:List Sc
def paA(p:Pa):AV:=.agg [.int .i64 p.kind,.str p.text]
def scA(x:Sc):AV:=.agg [.str x.no,.int .i64 x.place,.str x.set,.int .i64 x.time,.fz 2 (x.Ld.map paA)]
def srA(x:Sr):AV:=.agg [.str x.Lk,.fz 5 (x.Lc.map scA)]
def paraOk(p:Pa):Bool:=decide (1<=p.kind)&&(decide (p.kind<=5)&&(p.text != []&&(plainL p.text&&(decide (p.text.length<=2000) &&
 ((p.kind != 2||BvW p.text)&&((p.kind != 3||(decide (p.text.length<=200)&&!Lib.containsAny p.text [40,41]))&&(p.kind != 5||isTurnL p.text)))))))
theorem AsP{S:Std}(hS:LibOk S)(p:Pa)(h:paraOk p=true):PcH prog S 120 [paA p] (· = .int .i64 0):=by
 obtain⟨k,s⟩:=p;simp only[paraOk,lag,laj,bne_iff_ne,ne_eq,lbi,lcb]at h;obtain⟨h1,h2,h3,h4,h5,h6,h7,h8⟩:=h;have e0:(s==[])=false:=by simpa using h3
 have hs:s.length<1000000:=by omega
 have d2:decide ((s.length:Int)>2000)=false:=by simp; omega
 have hasc:AeA s:=A3Y (by simp only[plainL,lag]at h4; exact h4.1);unfold paA;have hk:k=1\/k=2\/k=3\/k=4\/k=5:=by omega
 refine zqIN func120 rfl fun h ρ w hg=>?_
 rcases hk with rfl|rfl|rfl|rfl|rfl
 .simp only [go_sem,e0,d2]
  refine zqN hg (AcQ hS s hs) ?_;rw[h4];simp only[go_sem,e0,d2];exact zt [2]
 .simp only [go_sem,e0,d2]
  refine zqN hg (AcQ hS s hs) ?_;rw[h4];simp only[go_sem,e0,d2];refine zqN hg (A7F hS s hs) ?_;rw[h6.resolve_left (by simp)];simp only[go_sem];exact zt [2]
 .have h7:=h7.resolve_left (by simp)
  have d3:decide ((s.length:Int)>200)=false:=by simp; omega
  simp only[go_sem,e0,d2,d3];refine zqN hg (AcQ hS s hs) ?_;rw[h4];simp only[go_sem,e0,d2,d3];refine zpN (AhL s [40,41] (by omega) (by decide) hasc (AbS rfl)) ?_;rw[h7.2];simp only[go_sem];exact zt [2]
 .simp only [go_sem,e0,d2]
  refine zqN hg (AcQ hS s hs) ?_;rw[h4];simp only[go_sem,e0,d2];exact zt [2]
 .simp only [go_sem,e0,d2]
  refine zqN hg (AcQ hS s hs) ?_;rw[h4];simp only[go_sem,e0,d2];refine zpN (BbJ s hs) ?_;rw[h8.resolve_left (by simp)];simp only[go_sem];exact zt [2]
end Go.Proofs.YtmhjbljckkgeoaaGreatDoor
namespace Go.Av
open RowKit
variable [Tr]
def cellTo(n:Nat)(a a':AV):Prop:=a'=a\/(a=.raw (.slice none 0 0)/\(a'=.sl n 0 0 0\/∃ es,a'=.fz es []))
def toC(n:Nat):LY->LY->Prop
 | [],[]=>True
 | a::r,a'::r'=>cellTo n a a'/\toC n r r'
 | _,_=>False
theorem cellTo.refl{n:Nat}{a:AV}:cellTo n a a:=.inl rfl
theorem cellTo.sl{n:Nat}:cellTo n (.raw (.slice none 0 0)) (.sl n 0 0 0):=.inr ⟨rfl,.inl rfl⟩
theorem cellTo.fz{n es:Nat}:cellTo n (.raw (.slice none 0 0)) (.fz es []):=.inr ⟨rfl,.inr ⟨es,rfl⟩⟩
section
variable {h:Mem}{ρ:Own}{s:LB}{w:World}
theorem BoS{n es:Nat}(hn:s[n]? = some (.arr es [])):∀ {l l':LY}{vs:List Value},toC n l l'->RL h (Lf ρ s) false vs l->RL h (Lf ρ s) false vs l'
 | [],[],_,_,r=>r
 | a::l,a'::l',_,t,r=>by
  cases r with
  | cons r1 r2 =>
   refine .cons ?_ (BoS hn t.2 r2)
   rcases t.1 with rfl|⟨rfl,rfl|⟨e,rfl⟩⟩
   .exact r1
   .rw [inv_raw r1]
    exact .leaf ⟨rfl,by simp only[LfC,hn]; exact⟨by simp,fun _=>.inl ⟨trivial,trivial,none,rfl⟩⟩⟩
   .rw [inv_raw r1]
    exact .fznil e
 | [],_::_,_,t,_=>t.elim
 | _::_,[],_,t,_=>t.elim
theorem Mine.recell(m:Mine h ρ s w){id n es es':Nat}{l l':LY}(hb:s[id]? = some (.arr es l))(hlen:l'.length=l.length)(hcl:∀ x∈l',(cellsOf x).length=es)(hn:s[n]? = some (.arr es' []))(ht:toC n (flat l) (flat l')) :
  Mine h ρ (s.set id (.arr es l')) w/\Later h ρ s w h ρ (s.set id (.arr es l')) w:=by
 have hid:=(List.getElem?_eq_some_iff.1 hb).1;have hk:∀ v a,Lf ρ s v a->Lf ρ (s.set id (.arr es l')) v a:=fun v a x=>⟨x.1,AbI hb (fun _ _=>rfl) (Or.inl ⟨rfl,hlen,rfl⟩) x.2⟩
 refine⟨⟨m.mem,?_,fun i hi=>m.out i (by grind),m.inj,m.disj⟩,⟨fun _ _ _ x=>x,fun _ _ a b=>(b a).elim,hk,rfl,rfl,⟨rfl,Tr.same rfl⟩,lab _,fun _ _ _=>rfl,fun i _ t x=>.inl ⟨i,t,x⟩⟩⟩;intro i blk e
 by_cases hi:i=id
 .subst hi
  simp[hid]at e
  subst e
  rcases m.own i _ hb with⟨h1,h2⟩|⟨g,tot,cur,t,h1,h2,h3,h4,h5,h6,h7,h8,h9⟩
  .exact .inl ⟨by grind,h2⟩
  .refine .inr ⟨g,tot,cur,t,h1,h2,h3,by omega,h5,h6,hcl,h8,?_⟩
   rw[hlen];exact(BoS hn ht h9).mono (fun _ _ _ x=>x) hk
 .rw [lbv (Ne.symm hi)]at e
  exact(m.own i blk e).mono (fun _ _ _ x=>x) hk rfl (fun _ _ _=>rfl)
end
variable {c:Cx}{e:Env}{s:LB}
theorem Shift.cells(id es':Nat){es:Nat}{l:LY}(l':LY)(hb:s.getD id .dead=.arr es l)(hlen:l'.length=l.length)(hcl:∀ x∈l',(cellsOf x).length=es)(ht:toC s.length (flat l) (flat l')) :
  Shift c e s e (List.set (s++[Blk.arr es' []]) id (Blk.arr es l')):=by
 rintro a w ⟨hh,ρ,hm,hlt,he,hdf,hsz,hX⟩;obtain⟨m1,l1⟩:=hm.pushNil es';have hid:=AcO hb;obtain⟨m2,l2⟩:=m1.recell (id:=id) (es':=es') (by grind) hlen hcl (by simp) ht;exact⟨hh,ρ,m2,hlt.trans (l1.trans l2),fun t=>((he t).mono l1.hle l1.keep).mono l2.hle l2.keep,hdf,hsz,c.hx.later hm (l1.trans l2) hX⟩
end Go.Av
namespace Go.Av
open RowKit
variable [Tr]
def lowC(n:Nat):AV->Bool
 | .sl m _ _ _=>decide (m<n)
 | .ptr m _ _ _=>decide (m<n)
 | .mp m=>decide (m<n)
 | v=>frozen v
def lowV(n:Nat):AV->Bool
 | .agg r=>r.all (lowC n)
 | .fn _ r=>r.all (lowC n)
 | v=>lowC n v
def lowB(n:Nat):Blk->Bool
 | .arr _ l=>(flat l).all (lowC n)
 | .mp es=>es.all fun x=>lowV n x.2
 | .dead=>true
def wkl(n:Nat)(e:Env):Env->Prop
 | []=>True
 | (t,v)::r=>(lowV n v=true/\get e t=v)/\wkl n e r
def lowρ(ρ:Own)(n:Nat):Own:=fun i=>if i<n then ρ i else none
theorem AsQ{n:Nat}{v:AV}(h:frozen v=true):lowC n v=true:=by
 cases v <;> first|exact h|grind[frozen]
theorem AaH{n:Nat}{l:LY}(h:l.all frozen=true):l.all (lowC n)=true:=by
 grind[AsQ]
section
variable {h:Mem}{ρ:Own}{s:LB}{w:World}{n:Nat}
theorem AsR(hn:n<=s.length){v:Value}{a:AV}(hl:lowC n a=true)(l:LfC ρ s v a):LfC (lowρ ρ n) (s.take n) v a:=by
 cases a with
 | sl i o x cp =>
  have hi:=of_decide_eq_true hl
  grind[LfC,lowρ]
 | ptr i m j o =>
  have hi:=of_decide_eq_true hl
  grind[LfC,lowρ]
 | mp i =>
  have hi:=of_decide_eq_true hl
  grind[LfC,lowρ]
 | _=>exact l.elim
theorem A0M(hn:n<=s.length){v:Value}{a:AV}(hl:lowC n a=true)(r:RV h (Lf ρ s) false v a):RV h (Lf (lowρ ρ n) (s.take n)) false v a:=by
 have frz:frozen a=true->RV h (Lf (lowρ ρ n) (s.take n)) false v a:=fun hf=>(AhU r hf).thaw (fun _ _ _ x=>x)
 cases a with
 | sl i o x cp=>exact .leaf ⟨(AbL r).1,AsR hn hl (AbL r).2⟩
 | ptr i m j o=>exact .leaf ⟨(AcU r).1,AsR hn hl (AcU r).2⟩
 | mp i=>exact .leaf ⟨(AlA r).1,AsR hn hl (AlA r).2⟩
 | _=>exact frz hl
theorem AgT(hn:n<=s.length):∀ {l:LY}{vs:List Value},l.all (lowC n)=true->RL h (Lf ρ s) false vs l->RL h (Lf (lowρ ρ n) (s.take n)) false vs l
 | [],_,_,r=>by cases r; exact .nil
 | a::l,_,hl,r=>by
  simp only[las,lag]at hl
  cases r with|cons r1 r2=>exact .cons (A0M hn hl.1 r1) (AgT hn hl.2 r2)
theorem BrG(hn:n<=s.length){u:Value}{y:AV}(h1:lowV n y=true)(hx:RV h (Lf ρ s) false u y):RV h (Lf (lowρ ρ n) (s.take n)) false u y:=by
 cases y with
 | agg r =>
  obtain⟨vs,rfl,rl⟩:=inv_agg hx;exact .agg vs r (AgT hn h1 rl)
 | fn f r =>
  cases hx with
  | leaf p=>exact p.2.elim
  | fn _ vs _ rl=>exact .fn f vs r (AgT hn h1 rl)
 | _=>exact A0M hn h1 hx
theorem Mine.low(m:Mine h ρ s w)(hn:n<=s.length)(hb:(s.take n).all (lowB n)=true):Mine h (lowρ ρ n) (s.take n) w:=by
 have hρ:∀ i g t,lowρ ρ n i=some (g,t)->i<n/\ρ i=some (g,t):=by
  grind[lowρ]
 refine⟨m.mem,?_,?_,?_,?_⟩
 .intro i b e
  have hi:i<n:=by
   grind
  have hlow:=List.all_eq_true.1 hb b (lar e);rw[lcd,if_pos hi]at e;have o:=m.own i b e;have hρi:lowρ ρ n i=ρ i:=by grind[lowρ]
  cases b with
  | arr es l =>
   rcases o with⟨h1,h2⟩|⟨g,tot,cur,t,h1,h2,h3,h4,h5,h6,h7,h8,h9⟩
   .exact .inl ⟨h1,hρi.trans h2⟩
   .exact .inr ⟨g,tot,cur,t,hρi.trans h1,h2,h3,h4,h5,h6,h7,h8,AgT hn hlow h9⟩
  | mp es =>
   obtain⟨g,en,cl,h1,h2,h3,h4⟩:=o;refine⟨g,en,cl,hρi.trans h1,h2,h3,fun k x y hx hy=>?_⟩;obtain⟨p,q⟩:=h4 k x y hx hy;simp only[lowB,List.all_eq_true]at hlow;have:=hlow x (lar hx);exact⟨p.thaw (fun _ _ _ x=>x),BrG hn this q⟩
  | dead=>exact hρi.trans o
 .grind[lowρ]
 .intro i j g t t' hi hj
  exact m.inj i j g t t' (hρ i g t hi).2 (hρ j g t' hj).2
 .intro i g t e
  exact m.disj i g t (hρ i g t e).2
end
variable {c:Cx}{e:Env}{s:LB}
theorem BrH{n:Nat}{e e':Env}(h:wkl n e e')(t:Nat):get e' t=.any\/(lowV n (get e' t)=true/\get e t=get e' t):=by
 induction e' with
 | nil=>exact .inl rfl
 | cons x r ih =>
  obtain⟨k,v⟩:=x;simp only[get]
  by_cases hk:k=t
  .subst hk; simp; exact .inr h.1
  .have:(k==t)=false:=by grind
   simp only[this,cond_false];exact ih h.2
theorem Shift.low(n:Nat){e':Env}(hc:c.sto.length<=n)(hn:n<=s.length)(hb:(s.take n).all (lowB n)=true)(hw:wkl n e e'):Shift c e s e' (s.take n):=by
 rintro a w ⟨hh,ρ,hm,hlt,he,hdf,hsz,hX⟩;have low:∀ v x,Lf c.ρ c.sto v x->Lf (lowρ ρ n) (s.take n) v x:=by
  intro v x lf;have l2:=hlt.keep v x lf;refine⟨lf.1,AsR hn ?_ l2.2⟩;have hx:=lf.2
  cases x <;> simp only[LfC]at hx
  .rename_i i o l cp
   cases hq:c.sto[i]? with
   | none=>grind
   | some y=>exact decide_eq_true (Nat.lt_of_lt_of_le (List.getElem?_eq_some_iff.1 hq).1 hc)
  .rename_i i n j o
   cases hq:c.sto[i]? with
   | none=>grind
   | some y=>exact decide_eq_true (Nat.lt_of_lt_of_le (List.getElem?_eq_some_iff.1 hq).1 hc)
  .rename_i i
   cases hq:c.sto[i]? with
   | none=>grind
   | some y=>exact decide_eq_true (Nat.lt_of_lt_of_le (List.getElem?_eq_some_iff.1 hq).1 hc)
 have hρ:∀ i g t,lowρ ρ n i=some (g,t)->ρ i=some (g,t):=by
  grind[lowρ]
 refine⟨hh,lowρ ρ n,hm.low hn hb,⟨hlt.hle,hlt.hnew,low,hlt.os,hlt.tape,hlt.output,hlt.size,hlt.block,fun i g t hi=>hlt.newown i g t (hρ i g t hi)⟩,fun t=>?_,hdf,hsz,c.hx.fewer (fun i g t hi=>⟨i,t,hρ i g t hi⟩) hX⟩;have hx:=he t
 rcases BrH hw t with hq|⟨h1,hq⟩
 .rw [hq]; exact .any _
 .rw [hq]at hx
  generalize Av.get e' t=y at h1 hx |-
  cases y with
  | agg r =>
   obtain⟨vs,hv,rl⟩:=inv_agg hx;rw[hv];exact .agg vs r (AgT hn h1 rl)
  | fn f r =>
   generalize a.tmps.getD t undef=u at hx |-
   cases hx with
   | leaf p=>exact p.2.elim
   | fn _ vs _ rl=>exact .fn f vs r (AgT hn h1 rl)
  | _=>exact A0M hn h1 hx
attribute [go_sem] wkl lowV lowC
end Go.Av
namespace Go.Av
open RowKit
variable [Tr]
variable {c:Cx}{e:Env}{s:LB}
theorem Lr(es:Nat):Shift c e s e (s++[.arr es []]):=by
 rintro a w ⟨hh,ρ,hm,hlt,he,hdf,hsz,hX⟩;obtain⟨m',l'⟩:=hm.pushNil es;exact⟨hh,ρ,m',hlt.trans l',fun t=>(he t).mono l'.hle l'.keep,hdf,hsz,c.hx.later hm l' hX⟩
theorem AwE{h:Mem}{ρ ρ':Own}{s s':LB}{vs:List Value}{l:LY}(hf:l.all frozen=true)(r:RL h (Lf ρ s) false vs l):RL h (Lf ρ' s') false vs l :=
 (AdV r hf).thaw (fun _ _ _ x=>x)
theorem AnD{f:FuncId}{args:LY}{n es:Nat}{l:LY}{K:AV->LB->Prop}(hc:Ct c.P f args [] (fun r s=>r=.sl 0 0 n n/\s=[.arr es l]))(hn:0<n)(hlen:l.length=n)(ha:args.all frozen=true)(hf:(flat l).all frozen=true)
  {id:Nat} (hid:s[id]? = some (.arr es [])) (hk:K (.sl id 0 n n) (s.set id (.arr es l))):BaZ c f args id s K:=by
 refine⟨_,fun r b=>r=.sl id 0 n n/\b=.arr es l,hid,⟨hc.1,fun h ρ s w vs hs m lt0 r=>?_⟩,⟨_,_,rfl,rfl⟩,fun r b ⟨h1,h2⟩=>by grind⟩;have hidl:=(List.getElem?_eq_some_iff.1 hs).1;have hm0:Mine h (fun _=>none) [] w:=⟨m.mem,fun id blk e=>by grind,fun _ _=>rfl,fun i j g t t' e=>by grind,fun i g t e=>by grind⟩;refine(hc.2 h (fun _=>none) w vs hm0 (AwE ha r)).mono ?_;rintro en w' ⟨v,r,s1,h',ρ1,rfl,⟨rfl,rfl⟩,m',lt,rv⟩;have hgood:∀ i g t,ρ1 i=some (g,t)->w.heap.size<=g:=fun i g t e=>by
  rcases lt.newown i g t e with⟨j,t',hj⟩|h<;>grind
 have hblk:=fun k hk=>lt.block k hk (fun i t e=>by cases e)
 have hnew:∀ b o,h b o=none->h' b o≠none->w.heap.size<=b:=fun b o e n=>by
  rcases lt.hnew b o e n with⟨j,t',hj⟩|h<;>grind
 have hρ:∀ i,i≠id->upd ρ id (ρ1 0) i=ρ i:=fun i hi=>by grind[upd]
 have hρi:upd ρ id (ρ1 0) id=ρ1 0:=by simp[upd]
 have hkeep:∀ v a,Lf ρ s v a->Lf (upd ρ id (ρ1 0)) (s.set id (.arr es l)) v a:=fun v a x=>⟨x.1,AbI hs hρ (Or.inr (by
  grind)) x.2⟩
 have hown:∀ i g t,upd ρ id (ρ1 0) i=some (g,t)->(i≠id/\ρ i=some (g,t)/\g<w.heap.size)\/(i=id/\ρ1 0=some (g,t)/\w.heap.size<=g):=fun i g t e=>by
  by_cases hi:i=id
  .grind
  .rw [hρ i hi]at e
   exact .inl ⟨hi,e,m.lt e⟩
 refine⟨v,_,_,h',upd ρ id (ρ1 0),rfl,⟨rfl,rfl⟩,⟨m'.mem,?_,?_,?_,?_⟩,⟨lt.hle,fun b o e n=>.inr (hnew b o e n),hkeep,lt.os,lt.tape,lt.output,lt.size,fun k hk _=>hblk k hk,?_⟩,?_⟩
 .intro i blk e
  by_cases hi:i=id
  .subst hi
   simp[hidl]at e
   subst e
   rcases m'.own 0 (.arr es l) rfl with⟨h1,h2⟩|⟨g,tot,cur,t,h1,h2,h3,h4,h5,h6,h7,h8,h9⟩
   .grind
   .exact .inr ⟨g,tot,cur,t,hρi.trans h1,h2,h3,h4,h5,h6,h7,h8,AwE hf h9⟩
  .rw [lbv (Ne.symm hi)]at e
   exact(m.own i blk e).mono lt.hle hkeep (hρ i hi) (fun g t hg=>hblk g (m.lt hg))
 .intro i hi
  simp at hi
  rw[hρ i (by omega)];exact m.out i hi
 .intro i j g t t' hi hj
  rcases hown i g t hi with⟨a1,a2,a3⟩|⟨a1,a2,a3⟩ <;> rcases hown j g t' hj with⟨b1,b2,b3⟩|⟨b1,b2,b3⟩
  .exact m.inj i j g t t' a2 b2
  all_goals omega
 .intro i g t e o
  rcases hown i g t e with⟨a1,a2,a3⟩|⟨a1,a2,a3⟩
  .cases hq:h' g o with
   | none=>rfl
   | some z =>
    have:=hnew g o (m.disj i g t a2 o) (by grind);omega
  .exact m'.disj 0 g t a2 o
 .grind
 .have q:=AbL rv
  exact .leaf ⟨q.1,BvO rfl (by grind) hρi q.2⟩
end Go.Av
namespace Go.Av
open RowKit
variable [Tr]
theorem Pc.nilarg{P:Program}{f:FuncId}{es:Nat}{args:LY}{post:AV->Prop}(hc:Pc P f (.fz es []::args) post):Pc P f (.raw (.slice none 0 0)::args) post:=by
 refine⟨hc.1,fun h w vs hm hv=>hc.2 h w vs hm ?_⟩
 cases hv with
 | cons r1 r2 =>
  have:_=Value.slice none 0 0:=inv_raw (ρ:=fun _=>none) (sto:=[]) (r1.thaw (fun _ _ _ x=>x) (fl:=false));subst this;exact .cons (.fznil es) r2
end Go.Av
namespace Go.Av
open RowKit
variable [Tr]
def idx:List Nat->Nat->Nat->Option Nat
 | [],_,_=>none
 | a::r,id,k=>bif a==id then some k else idx r id (k+1)
def ren1(σ:List Nat):AV->AV
 | .sl id o l c=>match idx σ id 0 with
  | some k=>.sl k o l c
  | none=>.any
 | .ptr id n i o=>match idx σ id 0 with
  | some k=>.ptr k n i o
  | none=>.any
 | .mp id=>match idx σ id 0 with
  | some k=>.mp k
  | none=>.any
 | .agg _=>.any
 | .tup _=>.any
 | .fn _ _=>.any
 | a=>a
def renC(σ:List Nat):AV->AV
 | .agg r=>.agg (r.map (ren1 σ))
 | a=>ren1 σ a
def renV(σ:List Nat):AV->AV
 | .agg r=>.agg (r.map (ren1 σ))
 | .fn f r=>.fn f (r.map (ren1 σ))
 | a=>ren1 σ a
def renB(σ:List Nat):Blk->Blk
 | .arr e l=>.arr e (l.map (renC σ))
 | .mp es=>.mp (es.map fun x=>(x.1,renV σ x.2))
 | b=>b
def renE(σ:List Nat):Env->Env
 | []=>[]
 | (t,v)::r=>(t,renV σ v)::renE σ r
def renS(σ:List Nat)(s:LB):LB:=σ.map fun i=>renB σ (s.getD i .dead)
def mpOk:Blk->Bool
 | _=>true
def renOk(σ:List Nat)(n:Nat)(s:LB):Bool:=σ.all (fun i=>decide (i<s.length)&&mpOk (s.getD i .dead))&&(decide σ.Nodup&&(σ.take n==List.range n))
theorem A3Z:∀ {σ:List Nat}{id k j:Nat},idx σ id j=some k->j<=k/\σ[k-j]? = some id
 | [],_,_,_,h=>by cases h
 | a::r,id,k,j,h=>by
  simp only[idx]at h
  by_cases e:a=id
  .grind
  .have:(a==id)=false:=by grind
   simp only[this,cond_false]at h;obtain⟨h1,h2⟩:=A3Z h
   grind
section
variable {h:Mem}{ρ:Own}{s:LB}{w:World}{σ:List Nat}
def renρ(ρ:Own)(σ:List Nat):Own:=fun k=>match σ[k]? with
 | some i=>ρ i
 | none=>none
theorem AmB{k i:Nat}(hk:σ[k]? = some i)(hi:i<s.length):(renS σ s)[k]? = some (renB σ (s[i])):=by
 grind[renS]
theorem BbK{σ:List Nat}(hs:∀ i∈σ,i<s.length){k id:Nat}(hk:σ[k]? = some id){v:Value}{a b c:Nat}(l:LfC ρ s v (.sl id a b c)):LfC (renρ ρ σ) (renS σ s) v (.sl k a b c):=by
 have hi:=hs id (lar hk);have hρ:renρ ρ σ k=ρ id:=by grind[renρ]
 simp only[LfC,AmB hk hi,lam hi,hρ]at l |-
 cases hq:s[id] <;> rw[hq]at l <;> simp only[renB,laa]at l |- <;> exact l
theorem A4A{σ:List Nat}(hs:∀ i∈σ,i<s.length){k id:Nat}(hk:σ[k]? = some id){v:Value}{a b c:Nat}(l:LfC ρ s v (.ptr id a b c)):LfC (renρ ρ σ) (renS σ s) v (.ptr k a b c):=by
 have hi:=hs id (lar hk);have hρ:renρ ρ σ k=ρ id:=by grind[renρ]
 simp only[LfC,AmB hk hi,lam hi,hρ]at l |-
 cases hq:s[id] <;> rw[hq]at l <;> simp only[renB,laa]at l |- <;> exact l
theorem BbL{σ:List Nat}(hs:∀ i∈σ,i<s.length){k id:Nat}(hk:σ[k]? = some id){v:Value}(l:LfC ρ s v (.mp id)):LfC (renρ ρ σ) (renS σ s) v (.mp k):=by
 have hi:=hs id (lar hk);have hρ:renρ ρ σ k=ρ id:=by grind[renρ]
 simp only[LfC,AmB hk hi,lam hi,hρ]at l |-
 cases hq:s[id] <;> rw[hq]at l <;> simp at l |- <;> exact l
theorem A0N{σ:List Nat}{id k:Nat}(h:idx σ id 0=some k):σ[k]? = some id:=by simpa using(A3Z h).2
theorem A0O(hs:∀ i∈σ,i<s.length){v:Value}{a:AV}(r:RV h (Lf ρ s) false v a):RV h (Lf (renρ ρ σ) (renS σ s)) false v (ren1 σ a):=by
 have frz:frozen a=true->RV h (Lf (renρ ρ σ) (renS σ s)) false v a:=fun hf=>(AhU r hf).thaw (fun _ _ _ x=>x)
 cases a with
 | sl id o l c =>
  simp only[ren1]
  cases hq:idx σ id 0 with
  | none=>exact .any _
  | some k=>exact .leaf ⟨(AbL r).1,BbK hs (A0N hq) (AbL r).2⟩
 | ptr id n i o =>
  simp only[ren1]
  cases hq:idx σ id 0 with
  | none=>exact .any _
  | some k=>exact .leaf ⟨(AcU r).1,A4A hs (A0N hq) (AcU r).2⟩
 | mp id =>
  simp only[ren1]
  cases hq:idx σ id 0 with
  | none=>exact .any _
  | some k=>exact .leaf ⟨(AlA r).1,BbL hs (A0N hq) (AlA r).2⟩
 | agg r=>exact .any _
 | tup r=>exact .any _
 | fn f r=>exact .any _
 | _=>exact frz rfl
theorem AgU(hs:∀ i∈σ,i<s.length):∀ {l:LY}{vs:List Value},RL h (Lf ρ s) false vs l->RL h (Lf (renρ ρ σ) (renS σ s)) false vs (l.map (ren1 σ))
 | [],_,r=>by cases r; exact .nil
 | a::l,_,r=>by cases r with|cons r1 r2=>exact .cons (A0O hs r1) (AgU hs r2)
theorem renC_cells(σ:List Nat)(x:AV):cellsOf (renC σ x)=(cellsOf x).map (ren1 σ):=by
 cases x<;>grind[renC,ren1,cellsOf]
theorem renC_flat(σ:List Nat):∀ l,flat (l.map (renC σ))=(flat l).map (ren1 σ)
 | []=>rfl
 | x::r=>by simp only[lak,flat,renC_cells,renC_flat σ r,laf]
theorem BrI(hs:∀ i∈σ,i<s.length){u:Value}{y:AV}(hx:RV h (Lf ρ s) false u y):RV h (Lf (renρ ρ σ) (renS σ s)) false u (renV σ y):=by
 cases y with
 | agg r =>
  obtain⟨vs,rfl,rl⟩:=inv_agg hx;exact .agg vs _ (AgU hs rl)
 | fn f r =>
  cases hx with
  | leaf p=>exact p.2.elim
  | fn _ vs _ rl=>exact .fn f vs _ (AgU hs rl)
 | _=>exact A0O hs hx
theorem Mine.ren(m:Mine h ρ s w)(hs:∀ i∈σ,i<s.length)(hm:∀ i∈σ,mpOk (s.getD i .dead)=true)(hn:σ.Nodup):Mine h (renρ ρ σ) (renS σ s) w:=by
 have hρ:∀ k g t,renρ ρ σ k=some (g,t)->∃ i,σ[k]? = some i/\ρ i=some (g,t):=by
  grind[renρ]
 refine⟨m.mem,?_,?_,?_,?_⟩
 .intro k b e
  have hk:k<σ.length:=by
   grind[renS]
  have hq:=lam hk;have hi:=hs σ[k] (lac hk);have hmk:=hm σ[k] (lac hk);rw[AmB hq hi]at e
  simp at e
  subst e;have o:=m.own σ[k] s[σ[k]] (lam hi);have hρk:renρ ρ σ k=ρ σ[k]:=by grind[renρ]
  rw[lcf,lam hi,Option.getD_some]at hmk
  cases hb:s[σ[k]]with
  | arr es l =>
   rw[hb]at o
   rcases o with⟨h1,h2⟩|⟨g,tot,cur,t,h1,h2,h3,h4,h5,h6,h7,h8,h9⟩
   .exact .inl ⟨by grind,hρk.trans h2⟩
   .refine .inr ⟨g,tot,cur,t,hρk.trans h1,h2,h3,by simpa using h4,h5,h6,?_,h8,?_⟩<;>grind[renC_cells,renC_flat,AgU]
  | mp es =>
   rw[hb]at o hmk;obtain⟨g,en,cl,h1,h2,h3,h4⟩:=o;refine⟨g,en,cl,hρk.trans h1,h2,by grind,fun k x y hx hy=>?_⟩;rw[lbw]at hx;obtain⟨x',hx',rfl⟩:=Option.map_eq_some_iff.1 hx;obtain⟨p,q⟩:=h4 k x' y hx' hy;exact⟨p.thaw (fun _ _ _ x=>x),BrI hs q⟩
  | dead=>rw[hb]at o; exact hρk.trans o
 .grind[renS,renρ]
 .intro k k' g t t' hi hj
  obtain⟨i,h1,h2⟩:=hρ k g t hi;obtain⟨j,h3,h4⟩:=hρ k' g t' hj;have hij:=m.inj i j g t t' h2 h4
  grind[List.getElem?_inj]
 .intro k g t e
  obtain⟨i,h1,h2⟩:=hρ k g t e;exact m.disj i g t h2
end
variable {c:Cx}{e:Env}{s:LB}
theorem A4B(σ:List Nat)(t:Nat):∀ r,get (renE σ r) t=.any\/get (renE σ r) t=renV σ (get r t)
 | []=>.inl rfl
 | (t',v)::r=>by
  have ih:=A4B σ t r;simp only[renE,Av.get]
  cases t'==t with
  | true=>exact .inr rfl
  | false=>exact ih
theorem Shift.ren(σ:List Nat)(hσ:renOk σ c.sto.length s=true):Shift c e s (renE σ e) (renS σ s):=by
 rintro a w ⟨hh,ρ,hm,hlt,he,hdf,hsz,hX⟩;simp only[renOk,lag,List.all_eq_true,laj,beq_iff_eq]at hσ;obtain⟨h1,h2,h3⟩:=hσ;have hs:=fun i hi=>(h1 i hi).1
 have keep:∀ i,i<c.sto.length->σ[i]? = some i:=fun i hi=>by
  have:(σ.take c.sto.length)[i]? = some i:=by grind
  grind
 have low:∀ v x,Lf c.ρ c.sto v x->Lf (renρ ρ σ) (renS σ s) v x:=by
  intro v x lf;have l2:=hlt.keep v x lf;refine⟨lf.1,?_⟩;have hx:=lf.2;have l3:=l2.2
  cases x with
  | sl i o l cp =>
   simp only[LfC]at hx
   grind[BbK]
  | ptr i n j o =>
   simp only[LfC]at hx
   grind[A4A]
  | mp i =>
   simp only[LfC]at hx
   grind[BbL]
  | _=>exact l3.elim
 have hρ:∀ k g t,renρ ρ σ k=some (g,t)->∃ i,ρ i=some (g,t):=by
  grind[renρ]
 refine⟨hh,renρ ρ σ,hm.ren hs (fun i hi=>(h1 i hi).2) h2,⟨hlt.hle,hlt.hnew,low,hlt.os,hlt.tape,hlt.output,hlt.size,hlt.block,fun k g t hk=>?_⟩,fun t=>?_,hdf,hsz,c.hx.fewer (fun k g t hk=>?_) hX⟩
 .obtain ⟨i,hi⟩:=hρ k g t hk
  exact hlt.newown i g t hi
 .have hx:=he t
  rcases A4B σ t e with hq|hq
  .rw [hq]; exact .any _
  .rw [hq]
   generalize Av.get e t=y at hx |-
   cases y with
   | agg r =>
    obtain⟨vs,hv,rl⟩:=inv_agg hx;rw[hv];exact .agg vs _ (AgU hs rl)
   | fn f r =>
    generalize a.tmps.getD t undef=u at hx |-
    cases hx with
    | leaf p=>exact p.2.elim
    | fn _ vs _ rl=>exact .fn f vs _ (AgU hs rl)
   | _=>exact A0O hs hx
 grind
