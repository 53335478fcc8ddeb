/- Contracts over the empty table, over every table, with standing cells. -/
import Derived.Test.YtlldmgboedknfaaGreatDoorC36
set_option linter.unusedSimpArgs false
set_option linter.unusedVariables false
set_option linter.unusedSectionVars false
namespace Go.Av
open Go Go.RowKit
variable [Tr]
theorem CtH.liftN{P:Program}{g:Std}{f:FuncId}{args:List AV}{post:AV->List Blk->Prop}(hc:CtH P g f args [] post)(ha:args.all nr1=true)(hmp:∀ r s',post r s'->s'.all mpOk=true)
  (s:List Blk):CtH P g f args s (fun r2 s2=>∃ r s',post r s'/\r2=shV s.length r/\s2=s++s'.map (shB s.length)):=by
 refine⟨hc.1,fun h ρ w vs hg m r=>?_⟩;have hm0:Mine h (fun _=>none) [] w:=⟨m.mem,fun id blk e=>by simp at e,fun _ _=>rfl,fun i j g t t' e=>by simp at e,fun i g t e=>by simp at e⟩;refine(hc.2 h (fun _=>none) w vs (fun k o e=>⟨(hg k o e).1,fun i t x=>by cases x⟩) hm0 ((AiY (Lf':=Lf0) r ha).thaw (fun _ _ _ x=>x))).mono ?_;rintro en w' ⟨v,r,s1,h',ρ1,rfl,hpost,m',lt,rv⟩;have hgood:∀ i g t,ρ1 i=some (g,t)->w.heap.size<=g:=fun i g t e=>by
  rcases lt.newown i g t e with⟨j,t',hj⟩|h
  .cases hj
  .exact h
 have hblk:∀ k,k<w.heap.size->w'.heap[k]? = w.heap[k]?:=fun k hk=>lt.block k hk (fun i t e=>by cases e)
 have hnew:∀ b o,h b o=none->h' b o≠none->w.heap.size<=b:=fun b o e n=>by
  rcases lt.hnew b o e n with⟨j,t',hj⟩|h
  .cases hj
  .exact h
 obtain⟨ρ2,hρ2⟩:∃ ρ2:Own,ρ2=fun k=>if k<s.length then ρ k else ρ1 (k-s.length):=⟨_,rfl⟩
 have hlo:∀ i,i<s.length->ρ2 i=ρ i:=fun i hi=>by rw[hρ2]; simp[hi]
 have hhi:∀ i,ρ2 (i+s.length)=ρ1 i:=fun i=>by
  rw[hρ2]
  show(if i+s.length<s.length then ρ (i+s.length) else ρ1 (i+s.length-s.length))=_
  rw[if_neg (by omega),Nat.add_sub_cancel]
 have hkeep:∀ v a,Lf ρ s v a->Lf ρ2 (s++s1.map (shB s.length)) v a:=fun v a x=>BmU hlo x
 have hst:∀ id,(s++s1.map (shB s.length))[id+s.length]? = (s1[id]?).map (shB s.length):=fun id=>by
  rw[List.getElem?_append_right (by omega),Nat.add_sub_cancel,List.getElem?_map]
 have hown:∀ i g t,ρ2 i=some (g,t)->(i<s.length/\ρ i=some (g,t)/\g<w.heap.size)\/(s.length<=i/\ρ1 (i-s.length)=some (g,t)/\w.heap.size<=g):=fun i g t e=>by
  by_cases hi:i<s.length
  .rw [hlo i hi]at e
   exact .inl ⟨hi,e,m.lt e⟩
  .have e2:ρ2 i=ρ1 (i-s.length):=by rw[<- hhi]; congr 1; omega
   rw[e2]at e;exact .inr ⟨by omega,e,hgood _ g t e⟩
 refine⟨v,_,_,h',ρ2,rfl,⟨r,s1,hpost,rfl,rfl⟩,⟨m'.mem,?_,?_,?_,?_⟩,⟨lt.hle,fun b o e n=>.inr (hnew b o e n),hkeep,lt.os,lt.tape,lt.output,lt.size,fun k hk _=>hblk k hk,?_⟩,BmT hst hhi rv⟩
 .intro i blk e
  by_cases hi:i<s.length
  .rw [List.getElem?_append_left hi]at e
   exact(m.own i blk e).mono lt.hle hkeep (hlo i hi) (fun g t hg=>hblk g (m.lt hg))
  .obtain ⟨j,rfl⟩:∃ j,i=j+s.length:=⟨i-s.length,by omega⟩
   rw[hst]at e
   cases hb:s1[j]? with
   | none=>rw[hb]at e; cases e
   | some b =>
    rw[hb]at e;simp only[Option.map_some,Option.some.injEq]at e;subst e;have o:=m'.own j b hb;have hmb:=List.all_eq_true.1 (hmp _ _ hpost) b (List.mem_of_getElem? hb)
    cases b with
    | arr es l =>
     rcases o with⟨h1,h2⟩|⟨g,tot,cur,t,h1,h2,h3,h4,h5,h6,h7,h8,h9⟩
     .exact .inl ⟨by simp[h1],(hhi j).trans h2⟩
     .refine .inr ⟨g,tot,cur,t,(hhi j).trans h1,h2,h3,by simpa using h4,h5,h6,?_,h8,?_⟩
      .intro x hx
       obtain⟨y,hy,rfl⟩:=List.mem_map.1 hx;rw[shC_cells,List.length_map];exact h7 y hy
      .rw [shC_flat,List.length_map]
       exact ApP hst hhi h9
    | mp es =>
     obtain⟨g,en,cl,h1,h2,h3,h4,h5⟩:=o;refine⟨g,en,cl,(hhi j).trans h1,h2,by rw[lvs_map]; simpa using h3,fun k x y hx hy=>?_,h5.map _⟩;rw[lvs_map,List.getElem?_map]at hx;obtain⟨x',hx',rfl⟩:=Option.map_eq_some_iff.1 hx;obtain⟨p,q⟩:=h4 k x' y hx' hy;exact⟨p.thaw (fun _ _ _ x=>x),A2M hst hhi q⟩
    | it mid n seen=>cases hmb
    | dead=>exact(hhi j).trans o
 .intro i hi
  simp at hi
  have e2:ρ2 i=ρ1 (i-s.length):=by rw[<- hhi]; congr 1; omega
  rw[e2];exact m'.out _ (by omega)
 .intro i j g t t' hi hj
  rcases hown i g t hi with⟨a1,a2,a3⟩|⟨a1,a2,a3⟩ <;> rcases hown j g t' hj with⟨b1,b2,b3⟩|⟨b1,b2,b3⟩
  .exact m.inj i j g t t' a2 b2
  .omega
  .omega
  .have:=m'.inj _ _ g t t' a2 b2
   omega
 .intro i g t e o
  rcases hown i g t e with⟨a1,a2,a3⟩|⟨a1,a2,a3⟩
  .cases hq:h' g o with
   | none=>rfl
   | some z =>
    have:=hnew g o (m.disj i g t a2 o) (by rw[hq]; simp);omega
  .exact m'.disj _ g t a2 o
 .intro i g t e
  rcases hown i g t e with⟨a1,a2,a3⟩|⟨a1,a2,a3⟩
  .exact .inl ⟨i,t,a2⟩
  .exact .inr a3
end Go.Av
set_option maxRecDepth 100000
set_option maxHeartbeats 2000000
namespace Go.Proofs.YtlldmgboedknfaaGreatDoor
open Go Go.Av Go.RowKit _root_.Go.Proofs.Tryz
theorem A8L(sto:List Blk)(x:Sc)(xs:List Sc)(hl:xs.length<=100000) :
  Ct prog 63 [.fz 5 ((x::xs).map scA)] sto (fun r s=>r=.sl sto.length 0 (x::xs).length (x::xs).length/\s=sto++[.arr 5 ((x::xs).map scA)]):=by
 refine zcIN func63 rfl fun h ρ w=>?_
 simp only[go_sem,getD_endP,set_endP,scA];refine⟨by simp,by simp; omega,by simp; omega,aret [2] rfl ⟨by simp[resV,Av.get,scA],rfl⟩⟩
theorem BtK(σ:List Nat)(x:Sc):renC σ (scA x)=scA x:=rfl
theorem BeR(σ:List Nat)(xs:List Sc):(xs.map scA).map (renC σ)=xs.map scA:=by
 rw[List.map_map];exact List.map_congr_left fun s _=>rfl
theorem CtH.impF{P:Program}{g:Std}{f:FuncId}{args:List AV}{s:List Blk}{p q:AV->List Blk->Prop}(h:CtH P g f args s p)(hpq:∀ r s',p r s'->q r s'):CtH P g f args s q :=
 ⟨h.1,fun hh ρ w vs hg m r=>(h.2 hh ρ w vs hg m r).mono fun en w' ⟨v,r,s1,h',ρ',e,hp,rest⟩=>⟨v,r,s1,h',ρ',e,hpq _ _ hp,rest⟩⟩
theorem sh_sc(n:Nat)(x:Sc):shC n (scA x)=scA x:=rfl
theorem BtL(n:Nat)(xs:List Sc):(xs.map scA).map (shC n)=xs.map scA:=by
 rw[List.map_map];exact List.map_congr_left fun s _=>rfl
theorem BkM{St:Std}(hS:LibOk St)(ti:List UInt8)(x:Sc)(xs:List Sc)(hx:ScriptOk ⟨ti,x::xs⟩):CtH prog St 56 [srA ⟨ti,x::xs⟩,.int .i64 0,.int .i64 ((xs.length+1:Nat):Int)] []
  (fun r s=>r=.tup [.agg [.str ti,.sl 0 0 (xs.length+1) (xs.length+1)],.int .i64 0]/\s=[.arr 5 ((x::xs).map scA),.arr 2 [.agg [.str ti,.sl 0 0 (xs.length+1) (xs.length+1)]]]):=by
 have hck:=AfE hS _ hx;have hcp:=ApL ⟨ti,x::xs⟩ (by have:=hx.len; omega) (ApK hx);have hok:=hx.ok;have t3:=hx.len;simp only[List.length_cons]at t3 hok;have h5:(x.time==5)=false:=by
  have:=hok.2.2.2.1 rfl
  simpa using this
 simp only[srA,List.map_cons]at hck hcp |-;have d0:decide (((xs.length+1:Nat):Int)<0)=false:=by rw[decide_eq_false_iff_not]; omega
 have d1:decide (((xs.length+1:Nat):Int)>((xs.length+1:Nat):Int))=false:=by simp
 have d2:decide ((0:Int)<((xs.length+1:Nat):Int))=true:=by rw[decide_eq_true_eq]; omega
 have hg':List.getD (scA x::List.map scA xs) 0 .any=.agg [.str x.no,.int .i64 x.place,.str x.set,.int .i64 x.time,.fz 2 (x.paras.map paA)]:=rfl;refine zdIF func56 rfl fun h ρ w hg=>?_
 simp only[go_sem];refine zqF hg (hck) ?_;simp only[go_sem,d0,d1,List.length_map];refine zpF (hcp) ?_;simp only[go_sem,d2,hg',h5,List.length_map]
 repeat refine aqa ?_
 have htk:List.take xs.length (List.map scA xs)=List.map scA xs:=List.take_of_length_le (by simp);rw[htk];refine za (A8L _ x xs (by omega)) ?_;rintro _ _ ⟨rfl,rfl⟩;refine zgF ?_;simp only[go_sem];refine ARet.shift (Shift.ren [3,1] rfl) ?_;simp only[go_sem,↓BtK,↓BeR,renE,renV,ren1,renS,renB,renC,idx];exact AbB [.cell 6 28,.tmp 7] rfl [_,_] ⟨by simp only[go_sem,sideIs],rfl,trivial⟩ ⟨rfl,rfl⟩
theorem BeS{St:Std}(hS:LibOk St)(ti:List UInt8)(x:Sc)(xs:List Sc)(hx:ScriptOk ⟨ti,x::xs⟩)(T:List Blk):CtH prog St 56 [srA ⟨ti,x::xs⟩,.int .i64 0,.int .i64 ((xs.length+1:Nat):Int)] T
  (fun r s=>r=.tup [.agg [.str ti,.sl T.length 0 (xs.length+1) (xs.length+1)],.int .i64 0]/\s=T++[.arr 5 ((x::xs).map scA),.arr 2 [.agg [.str ti,.sl T.length 0 (xs.length+1) (xs.length+1)]]]) :=
 CtH.impF ((BkM hS ti x xs hx).liftN rfl (by rintro _ _ ⟨_,rfl⟩; rfl) T) (by
  rintro _ _ ⟨_,_,⟨rfl,rfl⟩,rfl,rfl⟩;simp only[↓BtL,↓sh_sc,shV,shC,sh1,shB,List.map_cons,List.map_nil,Nat.zero_add];exact⟨trivial,trivial⟩)
theorem A2N:Pc prog 53 [.str [73,78,84,46]] (· = .bool false):=by
 have e0:digI (73:UInt8).toNat=false:=by decide
 have e1:capI (73:UInt8).toNat=true:=by decide
 have e2:capI (78:UInt8).toNat=true:=by decide
 have e3:capI (84:UInt8).toNat=true:=by decide
 have e4:capI (46:UInt8).toNat=false:=by decide
 refine AbM (AaV func53 rfl ntmps53 hB53 (by simp) fun h ρ w=>go rfl 200 ?_);simp only[go_sem];refine AcT (around (zgN ?_));simp only[go_sem];refine zpN (AkO _) ?_;simp only[go_sem,e0];refine AcT (around (zgN ?_));simp only[go_sem];refine zpN (AbP _) ?_;simp only[go_sem,e1];refine AdZ (around (zgN ?_));simp only[go_sem];refine zpN (AbP _) ?_;simp only[go_sem,e2];refine AdZ (around (zgN ?_));simp only[go_sem];refine zpN (AbP _) ?_;simp only[go_sem,e3];refine AdZ (around (zgN ?_));simp only[go_sem];refine zpN (AbP _) ?_;simp only[go_sem,e4];exact aret [2] rfl ⟨by simp[resV,Av.get],rfl⟩
theorem AyQ(a b:List UInt8)(l:List AV)(hl:l.length<1000)(hn:(b==a)=false):Pc prog 73 [.fz 1 (.str a::.str b::l),.str b] (· = .int .i64 1):=by
 refine AbM (AaV func73 rfl ntmps73 hB73 (by simp) fun h ρ w=>go rfl 200 ?_);have d0:decide ((0:Int)<((l.length+1+1:Nat):Int))=true:=by simp; omega
 have d1:decide ((1:Int)<((l.length+1+1:Nat):Int))=true:=by simp; omega
 simp only[go_sem];refine AcT (around (zgN ?_));simp only[go_sem,hn,d0,d1]
 repeat refine ao ?_
 refine AdZ (around (zgN ?_));simp only[go_sem,d0,d1]
 repeat refine ao ?_
 exact aret [4] rfl ⟨by simp[resV,Av.get],rfl⟩
theorem A5V:Lib.cut [73,78,84,46,32,72,65,76,76,32,45,32,68,65,89] [32]=([73,78,84,46],[72,65,76,76,32,45,32,68,65,89],true):=by decide
theorem BeT:Lib.lastIndex [72,65,76,76,32,45,32,68,65,89] [32,45,32]=4:=by decide
theorem BkN:isSetL [72,65,76,76]=true:=by decide
def sceneE:AV:=.agg [.str [],.int .i64 1,.str [72,65,76,76],.int .i64 1,.raw (.slice none 0 0)]
theorem ApQ{S:Std}(hS:LibOk S):PcH prog S 196 [.str [73,78,84,46,32,72,65,76,76,32,45,32,68,65,89]] (· = .tup [sceneE,.int .i64 0]):=by
 refine AcF (AcN func196 rfl ntmps196 hB196 (by simp) fun h ρ w hg=>go rfl 200 ?_);simp only[go_sem];refine zqN hg (AtO hS [73,78,84,46,32,72,65,76,76,32,45,32,68,65,89] [32] (by decide)) ?_;rw[A5V];simp only[go_sem];refine AcS A2N rfl rfl rfl (zgN ?_);simp only[go_sem];refine zqN hg (AtO hS [73,78,84,46,32,72,65,76,76,32,45,32,68,65,89] [32] (by decide)) ?_;rw[A5V];simp only[go_sem];refine zpN (AwT _ _ (by decide)) ?_;rw[BeT];simp only[go_sem];refine AcS place_pc rfl rfl rfl (zgN ?_);simp only[go_sem,placeW];refine zpN (AyQ _ _ _ (by decide) (by decide)) ?_;simp only[go_sem];refine zr [.fz 1 AqW,.int .i64 1] mixed ?_;simp only[go_sem,AqW];refine⟨time_pc.at,?_⟩;have dayI:=AyQ [] [68,65,89] [.str [78,73,71,72,84],.str [68,65,87,78],.str [68,85,83,75],.str [76,65,84,69,82]] (by decide) (by decide);refine⟨dayI.at,rfl,rfl,?_⟩;refine zgN ?_;simp only[go_sem];refine zqN hg (AnW hS [72,65,76,76] (by decide)) ?_;rw[BkN];simp only[go_sem];refine AbB [.cell 2 71,.tmp 3] rfl [sceneE,.int .i64 0] ⟨?_,rfl,trivial⟩ ⟨rfl,rfl⟩;simp only[go_sem,sideIs,sceneE]
 trace_state
theorem t35:((35:UInt8).toNat:Int)=35:=rfl
theorem t82:((82:UInt8).toNat:Int)=82:=rfl
theorem pre_head:Lib.trimPrefix [35,32,73,78,84,46,32,72,65,76,76,32,45,32,68,65,89] [35,32]=[73,78,84,46,32,72,65,76,76,32,45,32,68,65,89]:=by decide
theorem BkO:Lib.hasPrefix [35,32,73,78,84,46,32,72,65,76,76,32,45,32,68,65,89] [35,32]=true:=by decide
def T0(k:Int):List Blk:=[.arr 2 [.agg [.str [],.raw (.slice none 0 0)]],.arr 3 [.agg [.str [84],.raw (.slice none 0 0),.int .i64 k]]]
theorem BkP:Ct prog 87 [.ptr 1 1 0 0,.str []] (T0 0) (fun r s=>r=.bool true/\s=T0 1):=by
 refine zcIN func87 rfl fun h ρ w=>?_
 simp only[go_sem,T0];exact zt [4]
def T1(k:Int):List Blk:=[.arr 2 [.agg [.str [],.raw (.slice none 0 0)]],.arr 3 [.agg [.str [84],.sl 3 0 1 1,.int .i64 k]],
 .arr 5 [.agg [.str [],.int .i64 1,.str [72,65,76,76],.int .i64 1,.raw (.slice none 0 0)]],.arr 5 [.agg [.str [],.int .i64 1,.str [72,65,76,76],.int .i64 1,.raw (.slice none 0 0)]]]
theorem A8M{S:Std}(hS:LibOk S):CtH prog S 142 [.ptr 1 1 0 0,.str [35,32,73,78,84,46,32,72,65,76,76,32,45,32,68,65,89]] (T0 1) (fun r s=>r=.bool true/\s=T1 3):=by
 refine zdIN func142 rfl fun h ρ w hg=>?_
 simp only[go_sem,T0,t35];refine zpN (AlM _ _) ?_;rw[pre_head,BkO];simp only[go_sem];refine zqN hg (ApQ hS) ?_;simp only[go_sem,sceneE];refine zr [] mixed ?_;simp only[go_sem];refine zgN ?_;simp only[go_sem];exact zt [4]
theorem BkQ{S:Std}(hS:LibOk S):CtH prog S 87 [.ptr 1 1 0 0,.str [35,32,73,78,84,46,32,72,65,76,76,32,45,32,68,65,89]] (T0 1) (fun r s=>r=.bool true/\s=T1 3):=by
 refine zdIN func87 rfl fun h ρ w hg=>?_
 simp only[go_sem,T0];refine zaH hg (A8M hS) ?_;rintro _ _ ⟨rfl,rfl⟩;refine zgN ?_;simp only[go_sem];exact zt [4]
theorem BkR:Ct prog 87 [.ptr 1 1 0 0,.str []] (T1 3) (fun r s=>r=.bool true/\s=T1 2):=by
 refine zcIN func87 rfl fun h ρ w=>?_
 simp only[go_sem,T1];exact zt [4]
def T2:List Blk:=[.arr 2 [.agg [.str [],.raw (.slice none 0 0)]],.arr 3 [.agg [.str [84],.sl 3 0 1 1,.int .i64 3]],
 .arr 5 [.agg [.str [],.int .i64 1,.str [72,65,76,76],.int .i64 1,.raw (.slice none 0 0)]],.arr 5 [.agg [.str [],.int .i64 1,.str [72,65,76,76],.int .i64 1,.sl 5 0 1 1]],
 .arr 2 [.agg [.int .i64 1,.str [82,97,105,110,46]]],.arr 2 [.agg [.int .i64 1,.str [82,97,105,110,46]]]]
theorem BtM:Ct prog 194 [.ptr 1 1 0 0,.int .i64 1,.str [82,97,105,110,46]] (T1 2) (fun r s=>s=T2):=by
 refine zcIN func194 rfl fun h ρ w=>?_
 simp only[go_sem,T1];refine zr [] mixed ?_;simp only[go_sem];refine zgN ?_;simp only[go_sem];refine⟨.inl trivial,aret [] rfl rfl⟩
theorem A8N{S:Std}(hS:LibOk S):CtH prog S 142 [.ptr 1 1 0 0,.str [82,97,105,110,46]] (T1 2) (fun r s=>r=.bool true/\s=T2):=by
 refine zdIN func142 rfl fun h ρ w hg=>?_
 simp only[go_sem,T1,t82];refine A7A BtM rfl rfl ?_;rintro r _ rfl;refine zgN ?_;simp only[go_sem];exact zt [4]
theorem BkS{S:Std}(hS:LibOk S):CtH prog S 87 [.ptr 1 1 0 0,.str [82,97,105,110,46]] (T1 2) (fun r s=>r=.bool true/\s=T2):=by
 refine zdIN func87 rfl fun h ρ w hg=>?_
 simp only[go_sem,T1];refine zaH hg (A8N hS) ?_;rintro _ _ ⟨rfl,rfl⟩;refine zgN ?_;simp only[go_sem];exact zt [4]
theorem BqH:plainL [84]=true:=by decide
def scriptA:AV:=.agg [.str [84],.fz 5 [sceneA]]
theorem A8O{S:Std}(hS:LibOk S):PcH prog S 18 [scriptA] (· = .int .i64 0):=by
 refine zqIN func18 rfl fun h ρ w hg=>?_
 simp only[go_sem,scriptA,sceneA];refine zqN hg (AcO hS [84] (by decide)) ?_;rw[BqH];simp only[go_sem];refine AcT (around (zgN ?_));simp only[go_sem];refine AdZ (around (zgN ?_));simp only[go_sem];refine AcT (around (zgN ?_));simp only[go_sem];refine zqN hg (BdE hS) ?_;simp only[go_sem];refine AdZ (around (zgN ?_));simp only[go_sem];exact zt [2]
theorem bzero:∃ i,prog.info? 146=some i/\i.zero=some (.agg #[.pointer none,.slice none 0 0]):=Option.map_eq_some_iff.1 (show(prog.info? 146).map (·.zero)=some (some (.agg #[.pointer none,.slice none 0 0])) by kernel_rfl)
theorem A2O{S:Std}(hS:LibOk S):PcH prog S 89 [scriptA] (· = .str [116,105,116,108,101,58,32,84,10,10,35,32,73,78,84,46,32,72,65,76,76,32,45,32,68,65,89,10,10,82,97,105,110,46,10]):=by
 refine AcF (ArJ func89 rfl ntmps89 hB89 (by simp) fun h ρ w hg hm=>go rfl 9 ?_);obtain⟨i,hi,hz⟩:=bzero;simp only[go_sem,scriptA,sceneA];refine BsJ (T:=146) (t:=3) rfl rfl rfl ntmps89 (by decide) hi hz 5 ?_;intro b hb;refine zgN ?_;simp only[go_sem];refine A3X AtM rfl rfl rfl rfl (by decide) (zgN ?_);simp only[go_sem];refine AcT (around (zgN ?_));simp only[go_sem];refine AcS A7V rfl rfl rfl (zgN ?_);simp only[go_sem];refine A3X AtM rfl rfl rfl rfl (by decide) (zgN ?_);simp only[go_sem];refine AcT (around (zgN ?_));simp only[go_sem];refine A3X AtM rfl rfl rfl rfl (by decide) (zgN ?_);simp only[go_sem];refine AcS BpP rfl rfl rfl (zgN ?_);simp only[go_sem];refine A3X AtM rfl rfl rfl rfl (by decide) (zgN ?_);simp only[go_sem];refine A3Y rfl (around (zgN ?_));simp only[go_sem];refine A3Y rfl (around (zgN ?_));simp only[go_sem];refine BoL BiI rfl rfl rfl hm rfl rfl (zgN ?_);simp only[go_sem];exact zt [2]
theorem A8P:splitL [116,105,116,108,101,58,32,84,10,10,35,32,73,78,84,46,32,72,65,76,76,32,45,32,68,65,89,10,10,82,97,105,110,46,10] [10] =
  [[116,105,116,108,101,58,32,84],[],[35,32,73,78,84,46,32,72,65,76,76,32,45,32,68,65,89],[],[82,97,105,110,46],[]]:=by decide
theorem pre_title:Lib.trimPrefix [116,105,116,108,101,58,32,84] [116,105,116,108,101,58,32]=[84]:=by decide
theorem BeU:Lib.hasPrefix [116,105,116,108,101,58,32,84] [116,105,116,108,101,58,32]=true:=by decide
theorem BkT{S:Std}(hS:LibOk S):PcH prog S 36 [.str [116,105,116,108,101,58,32,84,10,10,35,32,73,78,84,46,32,72,65,76,76,32,45,32,68,65,89,10,10,82,97,105,110,46,10]] (· = .tup [scriptA,.int .i64 0,.int .i64 0]):=by
 refine zqIN func36 rfl fun h ρ w hg=>?_
 simp only[go_sem];refine zqN hg (BbT hS _ [10] (by decide) (by decide)) ?_;rw[A8P];simp only[go_sem];refine AcT (around (zgN ?_));simp only[go_sem];refine zpN (AlM _ _) ?_;rw[pre_title,BeU];simp only[go_sem];refine AdZ (around (zgN ?_));simp only[go_sem];refine A7A BkP rfl rfl ?_;rintro _ _ ⟨rfl,rfl⟩;refine zgN ?_;simp only[go_sem];refine AdZ (around (zgN ?_));simp only[go_sem];refine zaH hg (BkQ hS) ?_;rintro _ _ ⟨rfl,rfl⟩;refine zgN ?_;simp only[go_sem];refine AdZ (around (zgN ?_));simp only[go_sem];refine A7A BkR rfl rfl ?_;rintro _ _ ⟨rfl,rfl⟩;refine zgN ?_;simp only[go_sem];refine AdZ (around (zgN ?_));simp only[go_sem];refine zaH hg (BkS hS) ?_;rintro _ _ ⟨rfl,rfl⟩;refine zgN ?_;simp only[go_sem];refine AWp.shift (Shift.weak (e':=[(27,.int .i64 5),(26,.int .i64 5),(25,.fz 1 [.str [116,105,116,108,101,58,32,84],.str [],.str [35,32,73,78,84,46,32,72,65,76,76,32,45,32,68,65,89],.str [],.str [82,97,105,110,46]]),
  (7,.ptr 1 1 0 0),(6,.int .i64 5),(5,.fz 1 [.str [116,105,116,108,101,58,32,84],.str [],.str [35,32,73,78,84,46,32,72,65,76,76,32,45,32,68,65,89],.str [],.str [82,97,105,110,46],.str []]),
  (2,.ptr 0 1 0 0),(0,.str [116,105,116,108,101,58,32,84,10,10,35,32,73,78,84,46,32,72,65,76,76,32,45,32,68,65,89,10,10,82,97,105,110,46,10])]) ?_) ?_
 .simp only [go_sem]
 refine AWp.shift (Shift.frz 5 rfl rfl) ?_;refine AWp.shift (Shift.frz 3 rfl rfl) ?_;simp only[T2,frzE,frzB,frzC,frz,frz1,Bool.cond_true,Bool.cond_false,go_sem];refine AdZ (around (zgN ?_));simp only[go_sem];refine zqN hg (A8O hS) ?_;simp only[go_sem];refine zqN hg (A2O hS) ?_;simp only[go_sem];refine AbB [.cell 2 28,.tmp 3,.tmp 4] rfl [scriptA,.int .i64 0,.int .i64 0] ⟨?_,rfl,rfl,trivial⟩ ⟨rfl,rfl⟩;simp only[go_sem,sideIs,scriptA,sceneA]
theorem A2P{S:Std}(hS:LibOk S):PcH prog S 10 [] (· = .bool true):=by
 refine zqIN func10 rfl fun h ρ w hg=>?_
 simp only[go_sem];refine zqN hg (BkT hS) ?_;simp only[go_sem,scriptA];exact zt [0]
def fitsB(no b:List UInt8):Bool:=no != []&&(b==[]||decide (AaC no b<0))
def btw(a b:List UInt8):Nat->Nat->List UInt8
 | 0,_=>[]
 | f+1,n=>if fitsB (nextL a n) b then nextL a n else btw a b f (n+1)
def betweenL(a b:List UInt8):List UInt8:=btw a b 6 0
theorem A2Q{S:Std}(hS:LibOk S)(a b:List UInt8)(ha:okA a)(hb:b=[]\/(okD b/\b.length<1000000)):PcH prog S 71 [.str a,.str b] (· = .str (betweenL a b)):=by
 refine zqIN func71 rfl fun h ρ w hg=>?_
 simp only[go_sem];refine AaI (ι:=Nat) (fun i=>6-i) (fun i=>[(7,.int .i64 i),(4,.str []),(0,.str a),(1,.str b)]) (fun _=>[]) (fun i=>i<=6/\betweenL a b=btw a b (6-i) i) 0 ⟨by omega,rfl⟩ ?_ ?_
 .refine Shift.weak ?_
  simp only[go_sem]
 .rintro i ⟨g1,g2⟩ J hJ
  by_cases hi:i<6
  .have d1:decide ((i:Int)<6)=true:=by simp; omega
   have hn:=BiN (n:=i) (by omega) ha;rw[show 6-i=(6-(i+1))+1 by omega,btw]at g2;have again:fitsB (nextL a i) b=false->betweenL a b=btw a b (6-(i+1)) (i+1):=fun e=>by rw[e]at g2; simpa using g2
   have done:fitsB (nextL a i) b=true->betweenL a b=nextL a i:=fun e=>by rw[e]at g2; simpa using g2
   clear g2;unfold fitsB at again done;refine zgN ?_;simp only[go_sem,d1];refine zqN hg (BiL hS a i (by omega) ha) ?_;generalize nextL a i=no at hn again done |-
   by_cases h0:no=[]
   .have e0:(no != [])=false:=by simp[h0]
    simp only[go_sem,e0];rw[ic i]
    repeat refine ao ?_
    refine ainv (hJ (i+1) ⟨by omega,again (by rw[e0]; rfl)⟩ (by omega)) (Shift.weak ?_);simp only[go_sem]
   .have e0:(no != [])=true:=by simp[h0]
    obtain⟨n1,n2,n3⟩:=hn.resolve_left h0
    by_cases hb0:b=[]
    .have eb:(b==[])=true:=by simp[hb0]
     simp only[go_sem,e0,eb];exact aret [4] rfl ⟨by rw[done (by rw[e0,eb]; rfl)]; rfl,rfl⟩
    .have eb:(b==[])=false:=by simp[hb0]
     obtain⟨b1,b2⟩:=hb.resolve_left hb0;simp only[go_sem,e0,eb];refine zpN (AnX no b (by omega) b2 n1 b1) ?_
     by_cases hc:AaC no b<0
     .have ec:decide (AaC no b<0)=true:=by simpa using hc
      simp only[go_sem,e0,eb,ec];exact aret [4] rfl ⟨by rw[done (by rw[e0,eb,ec]; rfl)]; rfl,rfl⟩
     .have ec:decide (AaC no b<0)=false:=by simpa using hc
      simp only[go_sem,e0,eb,ec];rw[ic i]
      repeat refine ao ?_
      refine ainv (hJ (i+1) ⟨by omega,again (by rw[e0,eb,ec]; rfl)⟩ (by omega)) (Shift.weak ?_);simp only[go_sem]
  .have d1:decide ((i:Int)<6)=false:=by simp; omega
   refine zgN ?_;simp only[go_sem,d1];have:i=6:=by omega
   subst this;exact aret [4] rfl ⟨by rw[g2]; rfl,rfl⟩
