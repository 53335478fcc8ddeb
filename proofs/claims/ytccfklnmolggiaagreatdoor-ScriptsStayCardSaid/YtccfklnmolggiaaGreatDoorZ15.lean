/- The library contracts laid at this seat, in the plain words that a tool of the kit has. -/
import Derived.Shelf.Strings.IndexAnyAll
import Derived.Shelf.Strings.SlTrimAscii
import Derived.Shelf.Strconv.AtoiErr
import Derived.Test.YtccfklnmolggiaaGreatDoorZ14
namespace Go.Proofs
open Shelf Proofs.Tryz
def Tryz.lays150_ren:Go.Shelf.Ren:=⟨fun|150=>133|153=>170|152=>201|226=>202|227=>158|228=>189|137=>104|119=>216|224=>199|225=>198|217=>144|266=>177|n=>n,fun|9=>9|4=>4|3=>3|5=>5|21=>21|117=>184|116=>183|0=>0|46=>174|124=>187|n=>n,fun|n=>n⟩
theorem Tryz.lays150:Go.Proofs.Lays.n150 prog Tryz.lays150_ren:=by constructor <;> intros <;> kernel_rfl
def Tryz.lays160_ren:Go.Shelf.Ren:=⟨fun|160=>166|232=>194|231=>157|227=>158|234=>195|233=>159|236=>196|235=>160|228=>189|271=>214|151=>190|197=>184|120=>221|152=>201|260=>208|137=>104|119=>216|224=>199|225=>198|217=>144|266=>177|n=>n,fun|9=>9|4=>4|3=>3|5=>5|117=>184|116=>183|0=>0|124=>187|21=>21|105=>210|46=>174|119=>206|139=>252|138=>251|n=>n,fun|3=>8|4=>9|n=>n⟩
theorem Tryz.lays160:Go.Proofs.Lays.n160 prog Tryz.lays160_ren:=by constructor <;> intros <;> kernel_rfl
def Tryz.lays161_ren:Go.Shelf.Ren:=⟨fun|161=>121|231=>157|227=>158|233=>159|235=>160|228=>189|197=>184|151=>190|260=>208|152=>201|137=>104|119=>216|224=>199|225=>198|217=>144|266=>177|n=>n,fun|9=>9|4=>4|3=>3|5=>5|117=>184|116=>183|0=>0|124=>187|105=>210|21=>21|119=>206|46=>174|139=>252|138=>251|n=>n,fun|3=>8|4=>9|n=>n⟩
theorem Tryz.lays161:Go.Proofs.Lays.n161 prog Tryz.lays161_ren:=by constructor <;> intros <;> kernel_rfl
def Tryz.laysC172_ren:Go.Shelf.Ren:=⟨fun|172=>77|244=>122|245=>123|247=>161|279=>162|280=>163|281=>164|282=>165|287=>191|316=>192|171=>21|205=>193|321=>212|322=>213|243=>51|246=>90|283=>134|284=>135|285=>136|286=>137|129=>172|317=>171|318=>173|319=>174|320=>175|337=>203|338=>204|n=>n,fun|9=>9|3=>3|75=>113|76=>114|4=>4|5=>5|167=>188|37=>107|0=>0|85=>189|2=>2|168=>191|53=>165|175=>217|46=>174|210=>221|127=>150|145=>235|143=>233|21=>21|171=>164|173=>168|212=>195|51=>196|20=>20|213=>197|232=>237|233=>238|80=>117|n=>n,fun|15=>2|16=>3|17=>0|18=>6|19=>7|n=>n⟩
theorem Tryz.laysC172:Go.Proofs.LaysC.n172 prog Tryz.laysC172_ren:=by constructor <;> intros <;> first|kernel_rfl|(constructor <;> intros <;> first|kernel_rfl|(constructor <;> intros <;> kernel_rfl))
end Go.Proofs
set_option maxRecDepth 100000
set_option linter.all false
namespace Go.Proofs.YtccfklnmolggiaaGreatDoor
open Av RowKit Proofs.Tryz
theorem AvR{f:FuncId}{args:LY}{r:AV}(vs:List Value)(v:Value)(hb:AaB prog f=true)(ha:∀ h vs',RL h Lf0 true vs' args->vs'=vs)(hr:∀ h,RV h Lf0 true v r)
  (H:∀ w,Calls prog f vs.toArray w fun e w'=>e=.returned v/\Below w.heap.size w w'):Pc prog f args (· = r):=by
 refine⟨hb,fun h w vs' hm hv=>?_⟩;have:=ha h vs' hv;subst this;refine(H w).mono ?_;rintro e w' ⟨rfl,hs⟩;have hs:Same w w':=⟨hs.os,hs.tape,⟨hs.output,trivial⟩,hs.size,hs.block⟩;exact⟨v,r,h,rfl,rfl,fun b o v e=>⟨hs.cell (hm b o v e).1,(hm b o v e).2⟩,fun _ _ _ x=>x,fun b o e n=>(n e).elim,hs,hr h⟩
def AeX(s:LU):Prop:=∀ b∈s,b.toNat<128
theorem AhD{s:LU}(h:AeX s):∀ (j:Nat) b,(⟨s.toArray⟩:ByteArray).data.toList[j]? = some b->b.toNat<128:=fun j b hb=>h b (laj hb)
theorem AlB{s:LU}(h:s.all (fun b=>decide (b.toNat<128))=true):AeX s:=fun b hb=>of_decide_eq_true (List.all_eq_true.1 h b hb)
theorem BbK{s:LU}(h:s.all okB=true):AeX s:=fun b hb=>by
 grind[okB]
theorem BjI:(prog.info? (Tryz.lays150_ren.t 116)).map (fun i=>(i.zero,i.size))=some (some (.agg (Array.replicate 256 (.bool false))),256):=by kernel_rfl
theorem BjJ:(prog.info? (Tryz.lays160_ren.t 116)).map (fun i=>(i.zero,i.size))=some (some (.agg (Array.replicate 256 (.bool false))),256):=by kernel_rfl
theorem BjK:(prog.info? (Tryz.lays161_ren.t 116)).map (fun i=>(i.zero,i.size))=some (some (.agg (Array.replicate 256 (.bool false))),256):=by kernel_rfl
theorem AmW(s p:LU)(hs:s.length<4294967281)(hp:p.length<4294967281)(h1:AeX s)(h2:AeX p):Pc prog 133 [.str s,.str p] (· = .bool (Lib.containsAny s p)) :=
 AvR [_,_] (.bool (Lib.containsAny s p)) hB133 (AbY s p) (fun h=>.bool _) fun w=>Any.strings_ContainsAny_laid Tryz.lays150 BjI ⟨s.toArray⟩ ⟨p.toArray⟩ w hs hp (AhD h1) (AhD h2)
theorem BgK(s p:LU)(hs:s.length<4294967281)(hp:p.length<4294967281)(h2:AeX p):Pc prog 166 [.str s,.str p] (· = .str (Lib.trimS s p)) :=
 AvR [_,_] (.string ⟨(Lib.trimS s p).toArray⟩) hB166 (AbY s p) (fun h=>.str _) fun w=>Any.strings_Trim_laid Tryz.lays160 BjJ ⟨s.toArray⟩ ⟨p.toArray⟩ w (show s.length<=_ by omega) hp (AhD h2)
theorem AvS(s p:LU)(hp:p.length<4294967281)(h2:AeX p):Pc prog 121 [.str s,.str p] (· = .str (Lib.trimLeftS s p)) :=
 AvR [_,_] (.string ⟨(Lib.trimLeftS s p).toArray⟩) hB121 (AbY s p) (fun h=>.str _) fun w=>Any.strings_TrimLeft_laid Tryz.lays161 BjK ⟨s.toArray⟩ ⟨p.toArray⟩ w hp (AhD h2)
def A1B(c:UInt8):Bool:=capI c.toNat||(((c.toNat:Int)==32)||((c.toNat:Int)==46))
def isTurnL(s:LU):Bool:=s.all A1B&&decide ((s.length:Int)<=40)
theorem AsH(s:LU)(hs:s.length<1000000):Pc prog 32 [.str s] (· = .bool (isTurnL s)):=by
 refine zpIN func32 rfl fun h ρ w=>?_
 simp only[go_sem];refine AaI (ι:=Nat) (fun i=>s.length-i) (fun i=>[(6,.int .i64 i),(5,.int .i64 s.length),(0,.str s)]) (fun _=>[]) (fun i=>i<=s.length/\(s.take i).all A1B=true) 0 ⟨by omega,by simp⟩ ?_ ?_
 .refine Lo ?_
  simp only[go_sem]
 .rintro i ⟨g1,g2⟩ J hJ
  apply zgN
  by_cases hi:i<s.length
  .have d1:decide ((i:Int)<(s.length:Int))=true:=by simp; omega
   have hx:s.getD i 0=s[i]:=by simp[List.getD,hi]
   simp only[go_sem,d1,hx];refine⟨by omega,by simpa using hi,?_⟩;refine zpN (AaO _) ?_;have bad:A1B s[i]=false->isTurnL s=false:=fun h=>by simp only[isTurnL,AcQ hi h,Bool.false_and]
   have again:A1B s[i]=true->(s.take (i+1)).all A1B=true:=fun h=>AbA hi g2 h
   have e1:(i:Int)+1=((i+1:Nat):Int):=by omega
   unfold A1B at bad again
   cases q1:capI s[i].toNat with
   | true =>
    simp only[go_sem];rw[e1]
    repeat refine ao ?_
    refine ainv (hJ (i+1) ⟨by omega,again (by rw[q1]; rfl)⟩ (by omega)) (Lo ?_);simp only[go_sem]
   | false =>
    cases q2:((s[i].toNat:Int)==32)with
    | true =>
     have q2':((s[i].toNat:Int) != 32)=false:=by rw[bne,q2]; rfl
     simp only[go_sem,q2',hx];rw[e1]
     repeat refine ao ?_
     refine ainv (hJ (i+1) ⟨by omega,again (by rw[q1,q2]; rfl)⟩ (by omega)) (Lo ?_);simp only[go_sem]
    | false =>
     have q2':((s[i].toNat:Int) != 32)=true:=by rw[bne,q2]; rfl
     cases q3:((s[i].toNat:Int)==46)with
     | true =>
      have q3':((s[i].toNat:Int) != 46)=false:=by rw[bne,q3]; rfl
      simp only[go_sem,q2',q3',hx];rw[e1]
      repeat refine ao ?_
      refine ainv (hJ (i+1) ⟨by omega,again (by rw[q1,q2,q3]; rfl)⟩ (by omega)) (Lo ?_);simp only[go_sem]
     | false =>
      have q3':((s[i].toNat:Int) != 46)=true:=by rw[bne,q3]; rfl
      simp only[go_sem,q2',q3',hx]
      repeat refine ao ?_
      exact aret [2] rfl ⟨by rw[bad (by rw[q1,q2,q3]; rfl)]; rfl,rfl⟩
  .have d1:decide ((i:Int)<(s.length:Int))=false:=by simp; omega
   have:i=s.length:=by omega
   subst this;simp only[go_sem,d1];refine aret [2] rfl ⟨?_,rfl⟩;rw[lbt]at g2
   simp[resV,Av.get,isTurnL,g2]
def A4Z(s:LU):Bool:=properL s 30 [39,46,45]
theorem AfS{S:Std}(hS:LibOk S)(s:LU)(hs:s.length<1000000):PcH prog S 25 [.str s] (· = .bool (A4Z s)):=by
 refine zqIN func25 rfl fun h ρ w hg=>?_
 simp only[go_sem];refine zqN hg (AnL hS s 30 _ hs) ?_;simp only[go_sem];exact zt [2]
def followsL(k l:Int):Bool:=if k==3 then l==2||l==4 else if k==4 then l==2||(l==3||l==4) else l != 2&&l != 3
theorem A1C(k l:Int):Pc prog 89 [.int .i64 k,.int .i64 l] (· = .bool (followsL k l)):=by
 refine zpIN func89 rfl fun h ρ w=>?_
 unfold followsL
 cases q3:k==3 with
 | true =>
  cases q:l==2 <;>
  .simp only [go_sem,q3,q]
   exact zt [4]
 | false =>
  cases q4:k==4 with
  | true =>
   cases q:l==2 <;> cases q':l==3 <;>
   .simp only [go_sem,q3,q4,q,q']
    exact zt [4]
  | false =>
   cases q:l != 2 <;>
   .simp only [go_sem,q3,q4,q]
    exact zt [4]
structure Pa where
 kind:Int
 text:LU
structure Sc where
 no:LU
 place:Int
 set:LU
 time:Int
 Lc:List Pa
structure Sr where
 Lj:LU
 Lb:List Sc
def paA(p:Pa):AV:=.agg [.int .i64 p.kind,.str p.text]
def scA(x:Sc):AV:=.agg [.str x.no,.int .i64 x.place,.str x.set,.int .i64 x.time,.fz 2 (x.Lc.map paA)]
def srA(x:Sr):AV:=.agg [.str x.Lj,.fz 5 (x.Lb.map scA)]
def paraOk(p:Pa):Bool:=decide (1<=p.kind)&&(decide (p.kind<=5)&&(p.text != []&&(plainL p.text&&(decide (p.text.length<=2000) &&
 ((p.kind != 2||A4Z p.text)&&((p.kind != 3||(decide (p.text.length<=200)&&!Lib.containsAny p.text [40,41]))&&(p.kind != 5||isTurnL p.text)))))))
theorem ApT{S:Std}(hS:LibOk S)(p:Pa)(h:paraOk p=true):PcH prog S 88 [paA p] (· = .int .i64 0):=by
 obtain⟨k,s⟩:=p;simp only[paraOk,lac,lao,bne_iff_ne,ne_eq,lbj,lbr]at h;obtain⟨h1,h2,h3,h4,h5,h6,h7,h8⟩:=h;have e0:(s==[])=false:=by simpa using h3
 have hs:s.length<1000000:=by omega
 have d2:decide ((s.length:Int)>2000)=false:=by simp; omega
 have hasc:AeX s:=BbK (by simp only[plainL,lac]at h4; exact h4.1);unfold paA;have hk:k=1\/k=2\/k=3\/k=4\/k=5:=by omega
 refine zqIN func88 rfl fun h ρ w hg=>?_
 rcases hk with rfl|rfl|rfl|rfl|rfl
 .simp only [go_sem,e0,d2]
  refine zqN hg (AcF hS s hs) ?_;rw[h4];simp only[go_sem,e0,d2];exact zt [2]
 .simp only [go_sem,e0,d2]
  refine zqN hg (AcF hS s hs) ?_;rw[h4];simp only[go_sem,e0,d2];refine zqN hg (AfS hS s hs) ?_;rw[h6.resolve_left (by simp)];simp only[go_sem];exact zt [2]
 .have h7:=h7.resolve_left (by simp)
  have d3:decide ((s.length:Int)>200)=false:=by simp; omega
  simp only[go_sem,e0,d2,d3];refine zqN hg (AcF hS s hs) ?_;rw[h4];simp only[go_sem,e0,d2,d3];refine zpN (AmW s [40,41] (by omega) (by decide) hasc (AlB rfl)) ?_;rw[h7.2];simp only[go_sem];exact zt [2]
 .simp only [go_sem,e0,d2]
  refine zqN hg (AcF hS s hs) ?_;rw[h4];simp only[go_sem,e0,d2];exact zt [2]
 .simp only [go_sem,e0,d2]
  refine zqN hg (AcF hS s hs) ?_;rw[h4];simp only[go_sem,e0,d2];refine zpN (AsH s hs) ?_;rw[h8.resolve_left (by simp)];simp only[go_sem];exact zt [2]
end Go.Proofs.YtccfklnmolggiaaGreatDoor
namespace Go.Av
open RowKit
variable [Tr]
def cellTo(n:Nat)(a a':AV):Prop:=a'=a\/(a=.raw (.slice none 0 0)/\(a'=.sl n 0 0 0\/∃ es,a'=.fz es []))
def toC(n:Nat):LY->LY->Prop
 | [],[]=>True
 | a::r,a'::r'=>cellTo n a a'/\toC n r r'
 | _,_=>False
theorem cellTo.refl{n:Nat}{a:AV}:cellTo n a a:=.inl rfl
theorem cellTo.sl{n:Nat}:cellTo n (.raw (.slice none 0 0)) (.sl n 0 0 0):=.inr ⟨rfl,.inl rfl⟩
theorem cellTo.fz{n es:Nat}:cellTo n (.raw (.slice none 0 0)) (.fz es []):=.inr ⟨rfl,.inr ⟨es,rfl⟩⟩
section
variable {h:Mem}{ρ:Own}{s:LB}{w:World}
theorem BeF{n es:Nat}(hn:s[n]? = some (.arr es [])):∀ {l l':LY}{vs:List Value},toC n l l'->RL h (Lf ρ s) false vs l->RL h (Lf ρ s) false vs l'
 | [],[],_,_,r=>r
 | a::l,a'::l',_,t,r=>by
  cases r with
  | cons r1 r2 =>
   refine .cons ?_ (BeF hn t.2 r2)
   rcases t.1 with rfl|⟨rfl,rfl|⟨e,rfl⟩⟩
   .exact r1
   .rw [inv_raw r1]
    exact .leaf ⟨rfl,by simp only[LfC,hn]; exact⟨by simp,fun _=>.inl ⟨trivial,trivial,none,rfl⟩⟩⟩
   .rw [inv_raw r1]
    exact .fznil e
 | [],_::_,_,t,_=>t.elim
 | _::_,[],_,t,_=>t.elim
theorem Mine.recell(m:Mine h ρ s w){id n es es':Nat}{l l':LY}(hb:s[id]? = some (.arr es l))(hlen:l'.length=l.length)(hcl:∀ x∈l',(cellsOf x).length=es)(hn:s[n]? = some (.arr es' []))(ht:toC n (flat l) (flat l')) :
  Mine h ρ (s.set id (.arr es l')) w/\Later h ρ s w h ρ (s.set id (.arr es l')) w:=by
 have hid:=(List.getElem?_eq_some_iff.1 hb).1;have hk:∀ v a,Lf ρ s v a->Lf ρ (s.set id (.arr es l')) v a:=fun v a x=>⟨x.1,AbK hb (fun _ _=>rfl) (Or.inl ⟨rfl,hlen,rfl⟩) x.2⟩
 refine⟨⟨m.mem,?_,fun i hi=>m.out i (by grind),m.inj,m.disj⟩,⟨fun _ _ _ x=>x,fun _ _ a b=>(b a).elim,hk,rfl,rfl,⟨rfl,Tr.same rfl⟩,lab _,fun _ _ _=>rfl,fun i _ t x=>.inl ⟨i,t,x⟩⟩⟩;intro i blk e
 by_cases hi:i=id
 .subst hi
  simp[hid]at e
  subst e
  rcases m.own i _ hb with⟨h1,h2⟩|⟨g,tot,cur,t,h1,h2,h3,h4,h5,h6,h7,h8,h9⟩
  .exact .inl ⟨by grind,h2⟩
  .refine .inr ⟨g,tot,cur,t,h1,h2,h3,by omega,h5,h6,hcl,h8,?_⟩
   rw[hlen];exact(BeF hn ht h9).mono (fun _ _ _ x=>x) hk
 .rw [lax (Ne.symm hi)]at e
  exact(m.own i blk e).mono (fun _ _ _ x=>x) hk rfl (fun _ _ _=>rfl)
end
variable {c:Cx}{e:Env}{s:LB}
theorem Shift.cells(id es':Nat){es:Nat}{l:LY}(l':LY)(hb:s.getD id .dead=.arr es l)(hlen:l'.length=l.length)(hcl:∀ x∈l',(cellsOf x).length=es)(ht:toC s.length (flat l) (flat l')) :
  Shift c e s e (List.set (s++[Blk.arr es' []]) id (Blk.arr es l')):=by
 rintro a w ⟨hh,ρ,hm,hlt,he,hdf,hsz,hX⟩;obtain⟨m1,l1⟩:=hm.pushNil es';have hid:=AbT hb;obtain⟨m2,l2⟩:=m1.recell (id:=id) (es':=es') (by grind) hlen hcl (by simp) ht;exact⟨hh,ρ,m2,hlt.trans (l1.trans l2),fun t=>((he t).mono l1.hle l1.keep).mono l2.hle l2.keep,hdf,hsz,c.hx.later hm (l1.trans l2) hX⟩
end Go.Av
namespace Go.Av
open RowKit
variable [Tr]
def lowC(n:Nat):AV->Bool
 | .sl m _ _ _=>decide (m<n)
 | .ptr m _ _ _=>decide (m<n)
 | .mp m=>decide (m<n)
 | v=>frozen v
def lowV(n:Nat):AV->Bool
 | .agg r=>r.all (lowC n)
 | .fn _ r=>r.all (lowC n)
 | v=>lowC n v
def lowB(n:Nat):Blk->Bool
 | .arr _ l=>(flat l).all (lowC n)
 | .mp es=>es.all fun x=>lowV n x.2
 | .it mid _ _=>decide (mid<n)
 | .dead=>true
def wkl(n:Nat)(e:Env):Env->Prop
 | []=>True
 | (t,v)::r=>(lowV n v=true/\get e t=v)/\wkl n e r
def lowρ(ρ:Own)(n:Nat):Own:=fun i=>if i<n then ρ i else none
theorem ApU{n:Nat}{v:AV}(h:frozen v=true):lowC n v=true:=by
 cases v <;> first|exact h|grind[frozen]
theorem AaD{n:Nat}{l:LY}(h:l.all frozen=true):l.all (lowC n)=true:=by
 grind[ApU]
section
variable {h:Mem}{ρ:Own}{s:LB}{w:World}{n:Nat}
theorem AlC(hn:n<=s.length){v:Value}{a:AV}(hl:lowC n a=true)(l:LfC ρ s v a):LfC (lowρ ρ n) (s.take n) v a:=by
 cases a with
 | sl i o x cp =>
  have hi:=of_decide_eq_true hl
  grind[LfC,lowρ]
 | ptr i m j o =>
  have hi:=of_decide_eq_true hl
  grind[LfC,lowρ]
 | mp i =>
  have hi:=of_decide_eq_true hl
  grind[LfC,lowρ]
 | _=>exact l.elim
theorem AvT(hn:n<=s.length){v:Value}{a:AV}(hl:lowC n a=true)(r:RV h (Lf ρ s) false v a):RV h (Lf (lowρ ρ n) (s.take n)) false v a:=by
 have frz:frozen a=true->RV h (Lf (lowρ ρ n) (s.take n)) false v a:=fun hf=>(AdW r hf).thaw (fun _ _ _ x=>x)
 cases a with
 | sl i o x cp=>exact .leaf ⟨(AaY r).1,AlC hn hl (AaY r).2⟩
 | ptr i m j o=>exact .leaf ⟨(AcE r).1,AlC hn hl (AcE r).2⟩
 | mp i=>exact .leaf ⟨(AgI r).1,AlC hn hl (AgI r).2⟩
 | _=>exact frz hl
theorem AfT(hn:n<=s.length):∀ {l:LY}{vs:List Value},l.all (lowC n)=true->RL h (Lf ρ s) false vs l->RL h (Lf (lowρ ρ n) (s.take n)) false vs l
 | [],_,_,r=>by cases r; exact .nil
 | a::l,_,hl,r=>by
  simp only[laz,lac]at hl
  cases r with|cons r1 r2=>exact .cons (AvT hn hl.1 r1) (AfT hn hl.2 r2)
theorem BgL(hn:n<=s.length){u:Value}{y:AV}(h1:lowV n y=true)(hx:RV h (Lf ρ s) false u y):RV h (Lf (lowρ ρ n) (s.take n)) false u y:=by
 cases y with
 | agg r =>
  obtain⟨vs,rfl,rl⟩:=inv_agg hx;exact .agg vs r (AfT hn h1 rl)
 | fn f r =>
  cases hx with
  | leaf p=>exact p.2.elim
  | fn _ vs _ rl=>exact .fn f vs r (AfT hn h1 rl)
 | _=>exact AvT hn h1 hx
theorem Mine.low(m:Mine h ρ s w)(hn:n<=s.length)(hb:(s.take n).all (lowB n)=true):Mine h (lowρ ρ n) (s.take n) w:=by
 have hρ:∀ i g t,lowρ ρ n i=some (g,t)->i<n/\ρ i=some (g,t):=by
  intro i g t e;unfold lowρ at e
  split at e
  .exact ⟨by assumption,e⟩
  .cases e
 refine⟨m.mem,?_,?_,?_,?_⟩
 .intro i b e
  have hi:i<n:=by
   have:=(List.getElem?_eq_some_iff.1 e).1
   simp at this; omega
  have hlow:lowB n b=true:=List.all_eq_true.1 hb b (laj e);rw[lce,if_pos hi]at e;have o:=m.own i b e;have hρi:lowρ ρ n i=ρ i:=by simp[lowρ,hi]
  cases b with
  | arr es l =>
   rcases o with⟨h1,h2⟩|⟨g,tot,cur,t,h1,h2,h3,h4,h5,h6,h7,h8,h9⟩
   .exact .inl ⟨h1,hρi.trans h2⟩
   .exact .inr ⟨g,tot,cur,t,hρi.trans h1,h2,h3,h4,h5,h6,h7,h8,AfT hn hlow h9⟩
  | mp es =>
   obtain⟨g,en,cl,h1,h2,h3,h4,h5⟩:=o;refine⟨g,en,cl,hρi.trans h1,h2,h3,fun k x y hx hy=>?_,h5⟩;obtain⟨p,q⟩:=h4 k x y hx hy;simp only[lowB,lbv]at hlow;have:=hlow x (AoP (laj hx));exact⟨p.thaw (fun _ _ _ x=>x),BgL hn this q⟩
  | it mid k seen =>
   obtain⟨g,gm,h1,h2,h3,h4⟩:=o;exact⟨g,gm,hρi.trans h1,h2,⟨h3.1,AlC hn (a:=.mp mid) hlow h3.2⟩,h4⟩
  | dead=>exact hρi.trans o
 .intro i hi
  have:¬ i<n:=by simp at hi; omega
  simp[lowρ,this]
 .intro i j g t t' hi hj
  exact m.inj i j g t t' (hρ i g t hi).2 (hρ j g t' hj).2
 .intro i g t e
  exact m.disj i g t (hρ i g t e).2
end
variable {c:Cx}{e:Env}{s:LB}
theorem BgM{n:Nat}{e e':Env}(h:wkl n e e')(t:Nat):get e' t=.any\/(lowV n (get e' t)=true/\get e t=get e' t):=by
 induction e' with
 | nil=>exact .inl rfl
 | cons x r ih =>
  obtain⟨k,v⟩:=x;simp only[get]
  by_cases hk:k=t
  .subst hk; simp; exact .inr h.1
  .have:(k==t)=false:=by grind
   simp only[this,lba];exact ih h.2
theorem Shift.low(n:Nat){e':Env}(hc:c.sto.length<=n)(hn:n<=s.length)(hb:(s.take n).all (lowB n)=true)(hw:wkl n e e'):Shift c e s e' (s.take n):=by
 rintro a w ⟨hh,ρ,hm,hlt,he,hdf,hsz,hX⟩;have low:∀ v x,Lf c.ρ c.sto v x->Lf (lowρ ρ n) (s.take n) v x:=by
  intro v x lf;have l2:=hlt.keep v x lf;refine⟨lf.1,AlC hn ?_ l2.2⟩;have hx:=lf.2
  cases x <;> simp only[LfC]at hx
  .rename_i i o l cp
   cases hq:c.sto[i]? with
   | none=>grind
   | some y=>exact decide_eq_true (lcd (List.getElem?_eq_some_iff.1 hq).1 hc)
  .rename_i i n j o
   cases hq:c.sto[i]? with
   | none=>grind
   | some y=>exact decide_eq_true (lcd (List.getElem?_eq_some_iff.1 hq).1 hc)
  .rename_i i
   cases hq:c.sto[i]? with
   | none=>grind
   | some y=>exact decide_eq_true (lcd (List.getElem?_eq_some_iff.1 hq).1 hc)
 have hρ:∀ i g t,lowρ ρ n i=some (g,t)->ρ i=some (g,t):=by
  grind[lowρ]
 refine⟨hh,lowρ ρ n,hm.low hn hb,⟨hlt.hle,hlt.hnew,low,hlt.os,hlt.tape,hlt.output,hlt.size,hlt.block,fun i g t hi=>hlt.newown i g t (hρ i g t hi)⟩,fun t=>?_,hdf,hsz,c.hx.fewer (fun i g t hi=>⟨i,t,hρ i g t hi⟩) hX⟩;have hx:=he t
 rcases BgM hw t with hq|⟨h1,hq⟩
 .rw [hq]; exact .any _
 .rw [hq]at hx
  generalize Av.get e' t=y at h1 hx |-
  cases y with
  | agg r =>
   obtain⟨vs,hv,rl⟩:=inv_agg hx;rw[hv];exact .agg vs r (AfT hn h1 rl)
  | fn f r =>
   generalize a.tmps.getD t undef=u at hx |-
   cases hx with
   | leaf p=>exact p.2.elim
   | fn _ vs _ rl=>exact .fn f vs r (AfT hn h1 rl)
  | _=>exact AvT hn h1 hx
attribute [go_sem] wkl lowV lowC
end Go.Av
namespace Go.Av
open RowKit
variable [Tr]
variable {c:Cx}{e:Env}{s:LB}
theorem Lr(es:Nat):Shift c e s e (s++[.arr es []]):=by
 rintro a w ⟨hh,ρ,hm,hlt,he,hdf,hsz,hX⟩;obtain⟨m',l'⟩:=hm.pushNil es;exact⟨hh,ρ,m',hlt.trans l',fun t=>(he t).mono l'.hle l'.keep,hdf,hsz,c.hx.later hm l' hX⟩
theorem AfF{h:Mem}{ρ ρ':Own}{s s':LB}{vs:List Value}{l:LY}(hf:l.all frozen=true)(r:RL h (Lf ρ s) false vs l):RL h (Lf ρ' s') false vs l :=
 (AcI r hf).thaw (fun _ _ _ x=>x)
theorem AsI{f:FuncId}{args:LY}{n es:Nat}{l:LY}{K:AV->LB->Prop}(hc:Ct c.P f args [] (fun r s=>r=.sl 0 0 n n/\s=[.arr es l]))(hn:0<n)(hlen:l.length=n)(ha:args.all frozen=true)(hf:(flat l).all frozen=true)
  {id:Nat} (hid:s[id]? = some (.arr es [])) (hk:K (.sl id 0 n n) (s.set id (.arr es l))):BbB c f args id s K:=by
 refine⟨_,fun r b=>r=.sl id 0 n n/\b=.arr es l,hid,⟨hc.1,fun h ρ s w vs hs m lt0 r=>?_⟩,⟨_,_,rfl,rfl⟩,fun r b ⟨h1,h2⟩=>by grind⟩;have hidl:=(List.getElem?_eq_some_iff.1 hs).1;have hm0:Mine h (fun _=>none) [] w:=⟨m.mem,fun id blk e=>by grind,fun _ _=>rfl,fun i j g t t' e=>by grind,fun i g t e=>by grind⟩;refine(hc.2 h (fun _=>none) w vs hm0 (AfF ha r)).mono ?_;rintro en w' ⟨v,r,s1,h',ρ1,rfl,⟨rfl,rfl⟩,m',lt,rv⟩;have hgood:∀ i g t,ρ1 i=some (g,t)->w.heap.size<=g:=fun i g t e=>by
  rcases lt.newown i g t e with⟨j,t',hj⟩|h<;>grind
 have hblk:=fun k hk=>lt.block k hk (fun i t e=>by cases e)
 have hnew:∀ b o,h b o=none->h' b o≠none->w.heap.size<=b:=fun b o e n=>by
  rcases lt.hnew b o e n with⟨j,t',hj⟩|h<;>grind
 have hρ:∀ i,i≠id->upd ρ id (ρ1 0) i=ρ i:=fun i hi=>by grind[upd]
 have hρi:upd ρ id (ρ1 0) id=ρ1 0:=by simp[upd]
 have hkeep:∀ v a,Lf ρ s v a->Lf (upd ρ id (ρ1 0)) (s.set id (.arr es l)) v a:=fun v a x=>⟨x.1,AbK hs hρ (Or.inr (by
  grind)) x.2⟩
 have hown:∀ i g t,upd ρ id (ρ1 0) i=some (g,t)->(i≠id/\ρ i=some (g,t)/\g<w.heap.size)\/(i=id/\ρ1 0=some (g,t)/\w.heap.size<=g):=fun i g t e=>by
  by_cases hi:i=id
  .grind
  .rw [hρ i hi]at e
   exact .inl ⟨hi,e,m.lt e⟩
 refine⟨v,_,_,h',upd ρ id (ρ1 0),rfl,⟨rfl,rfl⟩,⟨m'.mem,?_,?_,?_,?_⟩,⟨lt.hle,fun b o e n=>.inr (hnew b o e n),hkeep,lt.os,lt.tape,lt.output,lt.size,fun k hk _=>hblk k hk,?_⟩,?_⟩
 .intro i blk e
  by_cases hi:i=id
  .subst hi
   simp[hidl]at e
   subst e
   rcases m'.own 0 (.arr es l) rfl with⟨h1,h2⟩|⟨g,tot,cur,t,h1,h2,h3,h4,h5,h6,h7,h8,h9⟩
   .grind
   .exact .inr ⟨g,tot,cur,t,hρi.trans h1,h2,h3,h4,h5,h6,h7,h8,AfF hf h9⟩
  .rw [lax (Ne.symm hi)]at e
   exact(m.own i blk e).mono lt.hle hkeep (hρ i hi) (fun g t hg=>hblk g (m.lt hg))
 .intro i hi
  simp at hi
  rw[hρ i (by omega)];exact m.out i hi
 .intro i j g t t' hi hj
  rcases hown i g t hi with⟨a1,a2,a3⟩|⟨a1,a2,a3⟩ <;> rcases hown j g t' hj with⟨b1,b2,b3⟩|⟨b1,b2,b3⟩
  .exact m.inj i j g t t' a2 b2
  all_goals omega
 .intro i g t e o
  rcases hown i g t e with⟨a1,a2,a3⟩|⟨a1,a2,a3⟩
  .cases hq:h' g o with
   | none=>rfl
   | some z =>
    have:=hnew g o (m.disj i g t a2 o) (by grind);omega
  .exact m'.disj 0 g t a2 o
 .grind
 .have q:=AaY rv
  exact .leaf ⟨q.1,ArY rfl (by grind) hρi q.2⟩
end Go.Av
namespace Go.Av
open RowKit
variable [Tr]
theorem Ct.lift{P:Program}{f:FuncId}{args:LY}{n es:Nat}{l:LY}(hc:Ct P f args [] (fun r s=>r=.sl 0 0 n n/\s=[.arr es l]))(ha:args.all nr1=true)(hf:(flat l).all frozen=true)
  (s:LB):Ct P f args s (fun r s'=>r=.sl s.length 0 n n/\s'=s++[.arr es l]):=by
 refine⟨hc.1,fun h ρ w vs m r=>?_⟩;have hm0:Mine h (fun _=>none) [] w:=⟨m.mem,fun id blk e=>by simp at e,fun _ _=>rfl,fun i j g t t' e=>by simp at e,fun i g t e=>by simp at e⟩;refine(hc.2 h (fun _=>none) w vs hm0 ((AgJ (Lf':=Lf0) r ha).thaw (fun _ _ _ x=>x))).mono ?_;rintro en w' ⟨v,r,s1,h',ρ1,rfl,⟨rfl,rfl⟩,m',lt,rv⟩;have hgood:∀ i g t,ρ1 i=some (g,t)->w.heap.size<=g:=fun i g t e=>by
  rcases lt.newown i g t e with⟨j,t',hj⟩|h
  .cases hj
  .exact h
 have hblk:∀ k,k<w.heap.size->w'.heap[k]? = w.heap[k]?:=fun k hk=>lt.block k hk (fun i t e=>by cases e)
 have hnew:∀ b o,h b o=none->h' b o≠none->w.heap.size<=b:=fun b o e n=>by
  rcases lt.hnew b o e n with⟨j,t',hj⟩|h
  .cases hj
  .exact h
 have hρ:∀ i,i≠s.length->upd ρ s.length (ρ1 0) i=ρ i:=fun i hi=>by simp[upd,hi]
 have hρi:upd ρ s.length (ρ1 0) s.length=ρ1 0:=by simp[upd]
 have hkeep:∀ v a,Lf ρ s v a->Lf (upd ρ s.length (ρ1 0)) (s++[.arr es l]) v a:=fun v a x=>AeY x
 have hown:∀ i g t,upd ρ s.length (ρ1 0) i=some (g,t)->(i≠s.length/\ρ i=some (g,t)/\g<w.heap.size)\/(i=s.length/\ρ1 0=some (g,t)/\w.heap.size<=g):=fun i g t e=>by
  by_cases hi:i=s.length
  .rw [hi,hρi]at e
   exact .inr ⟨hi,e,hgood 0 g t e⟩
  .rw [hρ i hi]at e
   exact .inl ⟨hi,e,m.lt e⟩
 refine⟨v,_,_,h',upd ρ s.length (ρ1 0),rfl,⟨rfl,rfl⟩,⟨m'.mem,?_,?_,?_,?_⟩,⟨lt.hle,fun b o e n=>.inr (hnew b o e n),hkeep,lt.os,lt.tape,lt.output,lt.size,fun k hk _=>hblk k hk,?_⟩,?_⟩
 .intro i blk e
  by_cases hi:i=s.length
  .subst hi
   simp at e
   subst e
   rcases m'.own 0 (.arr es l) rfl with⟨h1,h2⟩|⟨g,tot,cur,t,h1,h2,h3,h4,h5,h6,h7,h8,h9⟩
   .exact .inl ⟨h1,hρi.trans h2⟩
   .exact .inr ⟨g,tot,cur,t,hρi.trans h1,h2,h3,h4,h5,h6,h7,h8,AfF hf h9⟩
  .have hlt:i<s.length:=by
    have:=(List.getElem?_eq_some_iff.1 e).1
    simp at this
    omega
   rw[lat hlt]at e;exact(m.own i blk e).mono lt.hle hkeep (hρ i hi) (fun g t hg=>hblk g (m.lt hg))
 .intro i hi
  simp at hi
  rw[hρ i (by omega)];exact m.out i (by omega)
 .intro i j g t t' hi hj
  rcases hown i g t hi with⟨a1,a2,a3⟩|⟨a1,a2,a3⟩ <;> rcases hown j g t' hj with⟨b1,b2,b3⟩|⟨b1,b2,b3⟩
  .exact m.inj i j g t t' a2 b2
  .omega
  .omega
  .omega
 .intro i g t e o
  rcases hown i g t e with⟨a1,a2,a3⟩|⟨a1,a2,a3⟩
  .cases hq:h' g o with
   | none=>rfl
   | some z =>
    have:=hnew g o (m.disj i g t a2 o) (by rw[hq]; simp);omega
  .exact m'.disj 0 g t a2 o
 .intro i g t e
  rcases hown i g t e with⟨a1,a2,a3⟩|⟨a1,a2,a3⟩
  .exact .inl ⟨i,t,a2⟩
  .exact .inr a3
 .have q:=AaY rv
  exact .leaf ⟨q.1,ArY (blk:=.arr es l) rfl (by simp) hρi q.2⟩
end Go.Av
namespace Go.Av
open RowKit
variable [Tr]
def idx:List Nat->Nat->Nat->Option Nat
 | [],_,_=>none
 | a::r,id,k=>bif a==id then some k else idx r id (k+1)
def ren1(σ:List Nat):AV->AV
 | .sl id o l c=>match idx σ id 0 with
  | some k=>.sl k o l c
  | none=>.any
 | .ptr id n i o=>match idx σ id 0 with
  | some k=>.ptr k n i o
  | none=>.any
 | .mp id=>match idx σ id 0 with
  | some k=>.mp k
  | none=>.any
 | .agg _=>.any
 | .tup _=>.any
 | .fn _ _=>.any
 | a=>a
def renC(σ:List Nat):AV->AV
 | .agg r=>.agg (r.map (ren1 σ))
 | a=>ren1 σ a
def renV(σ:List Nat):AV->AV
 | .agg r=>.agg (r.map (ren1 σ))
 | .fn f r=>.fn f (r.map (ren1 σ))
 | a=>ren1 σ a
def renB(σ:List Nat):Blk->Blk
 | .arr e l=>.arr e (l.map (renC σ))
 | .mp es=>.mp (es.map fun x=>(x.1,renV σ x.2))
 | b=>b
def renE(σ:List Nat):Env->Env
 | []=>[]
 | (t,v)::r=>(t,renV σ v)::renE σ r
def renS(σ:List Nat)(s:LB):LB:=σ.map fun i=>renB σ (s.getD i .dead)
def mpOk:Blk->Bool
 | .it _ _ _=>false
 | _=>true
def renOk(σ:List Nat)(n:Nat)(s:LB):Bool:=σ.all (fun i=>decide (i<s.length)&&mpOk (s.getD i .dead))&&(decide σ.Nodup&&(σ.take n==List.range n))
theorem AyK:∀ {σ:List Nat}{id k j:Nat},idx σ id j=some k->j<=k/\σ[k-j]? = some id
 | [],_,_,_,h=>by cases h
 | a::r,id,k,j,h=>by
  simp only[idx]at h
  by_cases e:a=id
  .grind
  .have:(a==id)=false:=by grind
   simp only[this,lba]at h;obtain⟨h1,h2⟩:=AyK h
   grind
section
variable {h:Mem}{ρ:Own}{s:LB}{w:World}{σ:List Nat}
def renρ(ρ:Own)(σ:List Nat):Own:=fun k=>match σ[k]? with
 | some i=>ρ i
 | none=>none
theorem AjN{k i:Nat}(hk:σ[k]? = some i)(hi:i<s.length):(renS σ s)[k]? = some (renB σ (s[i])):=by
 grind[renS]
theorem A5A{σ:List Nat}(hs:∀ i∈σ,i<s.length){k id:Nat}(hk:σ[k]? = some id){v:Value}{a b c:Nat}(l:LfC ρ s v (.sl id a b c)):LfC (renρ ρ σ) (renS σ s) v (.sl k a b c):=by
 have hi:=hs id (laj hk);have hρ:renρ ρ σ k=ρ id:=by grind[renρ]
 simp only[LfC,AjN hk hi,lad hi,hρ]at l |-
 cases hq:s[id] <;> rw[hq]at l <;> simp only[renB,laa]at l |- <;> exact l
theorem AyL{σ:List Nat}(hs:∀ i∈σ,i<s.length){k id:Nat}(hk:σ[k]? = some id){v:Value}{a b c:Nat}(l:LfC ρ s v (.ptr id a b c)):LfC (renρ ρ σ) (renS σ s) v (.ptr k a b c):=by
 have hi:=hs id (laj hk);have hρ:renρ ρ σ k=ρ id:=by grind[renρ]
 simp only[LfC,AjN hk hi,lad hi,hρ]at l |-
 cases hq:s[id] <;> rw[hq]at l <;> simp only[renB,laa]at l |- <;> exact l
theorem A5B{σ:List Nat}(hs:∀ i∈σ,i<s.length){k id:Nat}(hk:σ[k]? = some id){v:Value}(l:LfC ρ s v (.mp id)):LfC (renρ ρ σ) (renS σ s) v (.mp k):=by
 have hi:=hs id (laj hk);have hρ:renρ ρ σ k=ρ id:=by grind[renρ]
 simp only[LfC,AjN hk hi,lad hi,hρ]at l |-
 cases hq:s[id] <;> rw[hq]at l <;> simp at l |- <;> exact l
theorem AvU{σ:List Nat}{id k:Nat}(h:idx σ id 0=some k):σ[k]? = some id:=by simpa using(AyK h).2
theorem AvV(hs:∀ i∈σ,i<s.length){v:Value}{a:AV}(r:RV h (Lf ρ s) false v a):RV h (Lf (renρ ρ σ) (renS σ s)) false v (ren1 σ a):=by
 have frz:frozen a=true->RV h (Lf (renρ ρ σ) (renS σ s)) false v a:=fun hf=>(AdW r hf).thaw (fun _ _ _ x=>x)
 cases a with
 | sl id o l c =>
  simp only[ren1]
  cases hq:idx σ id 0 with
  | none=>exact .any _
  | some k=>exact .leaf ⟨(AaY r).1,A5A hs (AvU hq) (AaY r).2⟩
 | ptr id n i o =>
  simp only[ren1]
  cases hq:idx σ id 0 with
  | none=>exact .any _
  | some k=>exact .leaf ⟨(AcE r).1,AyL hs (AvU hq) (AcE r).2⟩
 | mp id =>
  simp only[ren1]
  cases hq:idx σ id 0 with
  | none=>exact .any _
  | some k=>exact .leaf ⟨(AgI r).1,A5B hs (AvU hq) (AgI r).2⟩
 | agg r=>exact .any _
 | tup r=>exact .any _
 | fn f r=>exact .any _
 | _=>exact frz rfl
theorem AfU(hs:∀ i∈σ,i<s.length):∀ {l:LY}{vs:List Value},RL h (Lf ρ s) false vs l->RL h (Lf (renρ ρ σ) (renS σ s)) false vs (l.map (ren1 σ))
 | [],_,r=>by cases r; exact .nil
 | a::l,_,r=>by cases r with|cons r1 r2=>exact .cons (AvV hs r1) (AfU hs r2)
theorem renC_cells(σ:List Nat)(x:AV):cellsOf (renC σ x)=(cellsOf x).map (ren1 σ):=by
 cases x<;>grind[renC,ren1,cellsOf]
theorem renC_flat(σ:List Nat):∀ l,flat (l.map (renC σ))=(flat l).map (ren1 σ)
 | []=>rfl
 | x::r=>by simp only[lah,flat,renC_cells,renC_flat σ r,lap]
theorem BgN(hs:∀ i∈σ,i<s.length){u:Value}{y:AV}(hx:RV h (Lf ρ s) false u y):RV h (Lf (renρ ρ σ) (renS σ s)) false u (renV σ y):=by
 cases y with
 | agg r =>
  obtain⟨vs,rfl,rl⟩:=inv_agg hx;exact .agg vs _ (AfU hs rl)
 | fn f r =>
  cases hx with
  | leaf p=>exact p.2.elim
  | fn _ vs _ rl=>exact .fn f vs _ (AfU hs rl)
 | _=>exact AvV hs hx
theorem Mine.ren(m:Mine h ρ s w)(hs:∀ i∈σ,i<s.length)(hm:∀ i∈σ,mpOk (s.getD i .dead)=true)(hn:σ.Nodup):Mine h (renρ ρ σ) (renS σ s) w:=by
 have hρ:∀ k g t,renρ ρ σ k=some (g,t)->∃ i,σ[k]? = some i/\ρ i=some (g,t):=by
  intro k g t e;unfold renρ at e
  cases hq:σ[k]? with
  | none=>rw[hq]at e; cases e
  | some i=>rw[hq]at e; exact⟨i,rfl,e⟩
 refine⟨m.mem,?_,?_,?_,?_⟩
 .intro k b e
  have hk:k<σ.length:=by
   have:=(List.getElem?_eq_some_iff.1 e).1
   simpa[renS]using this
  have hq:=lad hk;have hi:=hs σ[k] (lai hk);have hmk:=hm σ[k] (lai hk);rw[AjN hq hi]at e;simp only[lam]at e;subst e;have o:=m.own σ[k] s[σ[k]] (lad hi);have hρk:renρ ρ σ k=ρ σ[k]:=by simp[renρ,hq]
  rw[lbk,lad hi,Option.getD_some]at hmk
  cases hb:s[σ[k]]with
  | arr es l =>
   rw[hb]at o
   rcases o with⟨h1,h2⟩|⟨g,tot,cur,t,h1,h2,h3,h4,h5,h6,h7,h8,h9⟩
   .exact .inl ⟨by simp[h1],hρk.trans h2⟩
   .refine .inr ⟨g,tot,cur,t,hρk.trans h1,h2,h3,by simpa using h4,h5,h6,?_,h8,?_⟩
    .intro x hx
     obtain⟨y,hy,rfl⟩:=List.mem_map.1 hx;rw[renC_cells,laa];exact h7 y hy
    .rw [renC_flat,laa]
     exact AfU hs h9
  | mp es =>
   rw[hb]at o hmk;obtain⟨g,en,cl,h1,h2,h3,h4,h5⟩:=o;refine⟨g,en,cl,hρk.trans h1,h2,by rw[lvs_map]; simpa using h3,fun k x y hx hy=>?_,h5.map _⟩;rw[lvs_map,lbf]at hx;obtain⟨x',hx',rfl⟩:=Option.map_eq_some_iff.1 hx;obtain⟨p,q⟩:=h4 k x' y hx' hy;exact⟨p.thaw (fun _ _ _ x=>x),BgN hs q⟩
  | it mid n seen=>rw[hb]at hmk; cases hmk
  | dead=>rw[hb]at o; exact hρk.trans o
 .intro k hk
  have:σ[k]? = none:=List.getElem?_eq_none (by simpa[renS]using hk)
  simp[renρ,this]
 .intro k k' g t t' hi hj
  obtain⟨i,h1,h2⟩:=hρ k g t hi;obtain⟨j,h3,h4⟩:=hρ k' g t' hj;have hij:=m.inj i j g t t' h2 h4;subst hij;exact(List.getElem?_inj (List.getElem?_eq_some_iff.1 h1).1 hn).1 (h1.trans h3.symm)
 .intro k g t e
  obtain⟨i,h1,h2⟩:=hρ k g t e;exact m.disj i g t h2
end
variable {c:Cx}{e:Env}{s:LB}
theorem AyM(σ:List Nat)(t:Nat):∀ r,get (renE σ r) t=.any\/get (renE σ r) t=renV σ (get r t)
 | []=>.inl rfl
 | (t',v)::r=>by
  have ih:=AyM σ t r;simp only[renE,Av.get]
  cases t'==t with
  | true=>exact .inr rfl
  | false=>exact ih
theorem Shift.ren(σ:List Nat)(hσ:renOk σ c.sto.length s=true):Shift c e s (renE σ e) (renS σ s):=by
 rintro a w ⟨hh,ρ,hm,hlt,he,hdf,hsz,hX⟩;simp only[renOk,lac,lbv,lao,lbx]at hσ;obtain⟨h1,h2,h3⟩:=hσ;have hs:=fun i hi=>(h1 i hi).1
 have keep:∀ i,i<c.sto.length->σ[i]? = some i:=fun i hi=>by
  have:(σ.take c.sto.length)[i]? = some i:=by grind
  grind
 have low:∀ v x,Lf c.ρ c.sto v x->Lf (renρ ρ σ) (renS σ s) v x:=by
  intro v x lf;have l2:=hlt.keep v x lf;refine⟨lf.1,?_⟩;have hx:=lf.2;have l3:=l2.2
  cases x with
  | sl i o l cp =>
   simp only[LfC]at hx
   grind[A5A]
  | ptr i n j o =>
   simp only[LfC]at hx
   grind[AyL]
  | mp i =>
   simp only[LfC]at hx
   grind[A5B]
  | _=>exact l3.elim
 have hρ:∀ k g t,renρ ρ σ k=some (g,t)->∃ i,ρ i=some (g,t):=by
  grind[renρ]
 refine⟨hh,renρ ρ σ,hm.ren hs (fun i hi=>(h1 i hi).2) h2,⟨hlt.hle,hlt.hnew,low,hlt.os,hlt.tape,hlt.output,hlt.size,hlt.block,fun k g t hk=>?_⟩,fun t=>?_,hdf,hsz,c.hx.fewer (fun k g t hk=>?_) hX⟩
 .obtain ⟨i,hi⟩:=hρ k g t hk
  exact hlt.newown i g t hi
 .have hx:=he t
  rcases AyM σ t e with hq|hq
  .rw [hq]; exact .any _
  .rw [hq]
   generalize Av.get e t=y at hx |-
   cases y with
   | agg r =>
    obtain⟨vs,hv,rl⟩:=inv_agg hx;rw[hv];exact .agg vs _ (AfU hs rl)
   | fn f r =>
    generalize a.tmps.getD t undef=u at hx |-
    cases hx with
    | leaf p=>exact p.2.elim
    | fn _ vs _ rl=>exact .fn f vs _ (AfU hs rl)
   | _=>exact AvV hs hx
 grind
