/- Contracts over the empty table, over every table, with standing cells. -/
import Derived.Test.YtlldmgboedknfaaGreatDoorB37
set_option linter.unusedSimpArgs false
set_option linter.unusedVariables false
set_option linter.unusedSectionVars false
namespace Go.Av
open Go Go.RowKit
variable [Tr]
theorem CtH.liftN{P:Program}{g:Std}{f:FuncId}{args:List AV}{post:AV->List Blk->Prop}(hc:CtH P g f args [] post)(ha:args.all nr1=true)(hmp:∀ r s',post r s'->s'.all mpOk=true)
  (s:List Blk):CtH P g f args s (fun r2 s2=>∃ r s',post r s'/\r2=shV s.length r/\s2=s++s'.map (shB s.length)):=by
 refine⟨hc.1,fun h ρ w vs hg m r=>?_⟩;have hm0:Mine h (fun _=>none) [] w:=⟨m.mem,fun id blk e=>by simp at e,fun _ _=>rfl,fun i j g t t' e=>by simp at e,fun i g t e=>by simp at e⟩;refine(hc.2 h (fun _=>none) w vs (fun k o e=>⟨(hg k o e).1,fun i t x=>by cases x⟩) hm0 ((AhY (Lf':=Lf0) r ha).thaw (fun _ _ _ x=>x))).mono ?_;rintro en w' ⟨v,r,s1,h',ρ1,rfl,hpost,m',lt,rv⟩;have hgood:∀ i g t,ρ1 i=some (g,t)->w.heap.size<=g:=fun i g t e=>by
  rcases lt.newown i g t e with⟨j,t',hj⟩|h
  .cases hj
  .exact h
 have hblk:∀ k,k<w.heap.size->w'.heap[k]? = w.heap[k]?:=fun k hk=>lt.block k hk (fun i t e=>by cases e)
 have hnew:∀ b o,h b o=none->h' b o≠none->w.heap.size<=b:=fun b o e n=>by
  rcases lt.hnew b o e n with⟨j,t',hj⟩|h
  .cases hj
  .exact h
 obtain⟨ρ2,hρ2⟩:∃ ρ2:Own,ρ2=fun k=>if k<s.length then ρ k else ρ1 (k-s.length):=⟨_,rfl⟩
 have hlo:∀ i,i<s.length->ρ2 i=ρ i:=fun i hi=>by rw[hρ2]; simp[hi]
 have hhi:∀ i,ρ2 (i+s.length)=ρ1 i:=fun i=>by
  rw[hρ2]
  show(if i+s.length<s.length then ρ (i+s.length) else ρ1 (i+s.length-s.length))=_
  rw[if_neg (by omega),Nat.add_sub_cancel]
 have hkeep:∀ v a,Lf ρ s v a->Lf ρ2 (s++s1.map (shB s.length)) v a:=fun v a x=>BgJ hlo x
 have hst:∀ id,(s++s1.map (shB s.length))[id+s.length]? = (s1[id]?).map (shB s.length):=fun id=>by
  rw[List.getElem?_append_right (by omega),Nat.add_sub_cancel,List.getElem?_map]
 have hown:∀ i g t,ρ2 i=some (g,t)->(i<s.length/\ρ i=some (g,t)/\g<w.heap.size)\/(s.length<=i/\ρ1 (i-s.length)=some (g,t)/\w.heap.size<=g):=fun i g t e=>by
  by_cases hi:i<s.length
  .rw [hlo i hi]at e
   exact .inl ⟨hi,e,m.lt e⟩
  .have e2:ρ2 i=ρ1 (i-s.length):=by rw[<- hhi]; congr 1; omega
   rw[e2]at e;exact .inr ⟨by omega,e,hgood _ g t e⟩
 refine⟨v,_,_,h',ρ2,rfl,⟨r,s1,hpost,rfl,rfl⟩,⟨m'.mem,?_,?_,?_,?_⟩,⟨lt.hle,fun b o e n=>.inr (hnew b o e n),hkeep,lt.os,lt.tape,lt.output,lt.size,fun k hk _=>hblk k hk,?_⟩,BgI hst hhi rv⟩
 .intro i blk e
  by_cases hi:i<s.length
  .rw [List.getElem?_append_left hi]at e
   exact(m.own i blk e).mono lt.hle hkeep (hlo i hi) (fun g t hg=>hblk g (m.lt hg))
  .obtain ⟨j,rfl⟩:∃ j,i=j+s.length:=⟨i-s.length,by omega⟩
   rw[hst]at e
   cases hb:s1[j]? with
   | none=>rw[hb]at e; cases e
   | some b =>
    rw[hb]at e;simp only[Option.map_some,Option.some.injEq]at e;subst e;have o:=m'.own j b hb;have hmb:=List.all_eq_true.1 (hmp _ _ hpost) b (List.mem_of_getElem? hb)
    cases b with
    | arr es l =>
     rcases o with⟨h1,h2⟩|⟨g,tot,cur,t,h1,h2,h3,h4,h5,h6,h7,h8,h9⟩
     .exact .inl ⟨by simp[h1],(hhi j).trans h2⟩
     .refine .inr ⟨g,tot,cur,t,(hhi j).trans h1,h2,h3,by simpa using h4,h5,h6,?_,h8,?_⟩
      .intro x hx
       obtain⟨y,hy,rfl⟩:=List.mem_map.1 hx;rw[shC_cells,List.length_map];exact h7 y hy
      .rw [shC_flat,List.length_map]
       exact AoB hst hhi h9
    | mp es =>
     obtain⟨g,en,cl,h1,h2,h3,h4,h5⟩:=o;refine⟨g,en,cl,(hhi j).trans h1,h2,by rw[lvs_map]; simpa using h3,fun k x y hx hy=>?_,h5.map _⟩;rw[lvs_map,List.getElem?_map]at hx;obtain⟨x',hx',rfl⟩:=Option.map_eq_some_iff.1 hx;obtain⟨p,q⟩:=h4 k x' y hx' hy;exact⟨p.thaw (fun _ _ _ x=>x),AzE hst hhi q⟩
    | it mid n seen=>cases hmb
    | dead=>exact(hhi j).trans o
 .intro i hi
  simp at hi
  have e2:ρ2 i=ρ1 (i-s.length):=by rw[<- hhi]; congr 1; omega
  rw[e2];exact m'.out _ (by omega)
 .intro i j g t t' hi hj
  rcases hown i g t hi with⟨a1,a2,a3⟩|⟨a1,a2,a3⟩ <;> rcases hown j g t' hj with⟨b1,b2,b3⟩|⟨b1,b2,b3⟩
  .exact m.inj i j g t t' a2 b2
  .omega
  .omega
  .have:=m'.inj _ _ g t t' a2 b2
   omega
 .intro i g t e o
  rcases hown i g t e with⟨a1,a2,a3⟩|⟨a1,a2,a3⟩
  .cases hq:h' g o with
   | none=>rfl
   | some z =>
    have:=hnew g o (m.disj i g t a2 o) (by rw[hq]; simp);omega
  .exact m'.disj _ g t a2 o
 .intro i g t e
  rcases hown i g t e with⟨a1,a2,a3⟩|⟨a1,a2,a3⟩
  .exact .inl ⟨i,t,a2⟩
  .exact .inr a3
end Go.Av
set_option maxRecDepth 100000
set_option maxHeartbeats 2000000
namespace Go.Proofs.YtlldmgboedknfaaGreatDoor
open Go Go.Av Go.RowKit _root_.Go.Proofs.Tryz
theorem A4K(sto:List Blk)(x:Sc)(xs:List Sc)(hl:xs.length<=100000) :
  Ct prog 63 [.fz 5 ((x::xs).map scA)] sto (fun r s=>r=.sl sto.length 0 (x::xs).length (x::xs).length/\s=sto++[.arr 5 ((x::xs).map scA)]):=by
 refine zcIN func63 rfl fun h ρ w=>?_
 simp only[go_sem,getD_endP,set_endP,scA];refine⟨by simp,by simp; omega,by simp; omega,aret [2] rfl ⟨by simp[resV,Av.get,scA],rfl⟩⟩
theorem BmC(σ:List Nat)(x:Sc):renC σ (scA x)=scA x:=rfl
theorem BjQ(σ:List Nat)(xs:List Sc):(xs.map scA).map (renC σ)=xs.map scA:=by
 rw[List.map_map];exact List.map_congr_left fun s _=>rfl
theorem CtH.impF{P:Program}{g:Std}{f:FuncId}{args:List AV}{s:List Blk}{p q:AV->List Blk->Prop}(h:CtH P g f args s p)(hpq:∀ r s',p r s'->q r s'):CtH P g f args s q :=
 ⟨h.1,fun hh ρ w vs hg m r=>(h.2 hh ρ w vs hg m r).mono fun en w' ⟨v,r,s1,h',ρ',e,hp,rest⟩=>⟨v,r,s1,h',ρ',e,hpq _ _ hp,rest⟩⟩
theorem sh_sc(n:Nat)(x:Sc):shC n (scA x)=scA x:=rfl
theorem BmD(n:Nat)(xs:List Sc):(xs.map scA).map (shC n)=xs.map scA:=by
 rw[List.map_map];exact List.map_congr_left fun s _=>rfl
theorem BeQ{St:Std}(hS:LibOk St)(ti:List UInt8)(x:Sc)(xs:List Sc)(hx:ScriptOk ⟨ti,x::xs⟩):CtH prog St 56 [srA ⟨ti,x::xs⟩,.int .i64 0,.int .i64 ((xs.length+1:Nat):Int)] []
  (fun r s=>r=.tup [.agg [.str ti,.sl 0 0 (xs.length+1) (xs.length+1)],.int .i64 0]/\s=[.arr 5 ((x::xs).map scA),.arr 2 [.agg [.str ti,.sl 0 0 (xs.length+1) (xs.length+1)]]]):=by
 have hck:=AdI hS _ hx;have hcp:=AnX ⟨ti,x::xs⟩ (by have:=hx.len; omega) (AnW hx);have hok:=hx.ok;have t3:=hx.len;simp only[List.length_cons]at t3 hok;have h5:(x.time==5)=false:=by
  have:=hok.2.2.2.1 rfl
  simpa using this
 simp only[srA,List.map_cons]at hck hcp |-;have d0:decide (((xs.length+1:Nat):Int)<0)=false:=by rw[decide_eq_false_iff_not]; omega
 have d1:decide (((xs.length+1:Nat):Int)>((xs.length+1:Nat):Int))=false:=by simp
 have d2:decide ((0:Int)<((xs.length+1:Nat):Int))=true:=by rw[decide_eq_true_eq]; omega
 have hg':List.getD (scA x::List.map scA xs) 0 .any=.agg [.str x.no,.int .i64 x.place,.str x.set,.int .i64 x.time,.fz 2 (x.paras.map paA)]:=rfl;refine zdIF func56 rfl fun h ρ w hg=>?_
 simp only[go_sem];refine zqF hg (hck) ?_;simp only[go_sem,d0,d1,List.length_map,List.length_cons];refine zpF (hcp) ?_;simp only[go_sem,d2,hg',h5,List.length_map,List.length_cons]
 repeat refine aqa ?_
 have htk:List.take xs.length (List.map scA xs)=List.map scA xs:=List.take_of_length_le (by simp);rw[htk];refine za (A4K _ x xs (by omega)) ?_;rintro _ _ ⟨rfl,rfl⟩;refine zgF ?_;simp only[go_sem];refine ARet.shift (Shift.ren [3,1] rfl) ?_;simp only[↓BmC,↓BjQ,renE,renV,ren1,renS,renB,renC,idx,List.map_cons,List.map_nil,Nat.reduceBEq,cond_true,cond_false,Nat.zero_add,Nat.reduceAdd,List.getD_cons_succ,List.getD_cons_zero];exact AbG [.cell 6 28,.tmp 7] rfl [_,_] ⟨by simp only[go_sem,sideIs],rfl,trivial⟩ ⟨rfl,rfl⟩
theorem A9Z{St:Std}(hS:LibOk St)(ti:List UInt8)(x:Sc)(xs:List Sc)(hx:ScriptOk ⟨ti,x::xs⟩)(T:List Blk):CtH prog St 56 [srA ⟨ti,x::xs⟩,.int .i64 0,.int .i64 ((xs.length+1:Nat):Int)] T
  (fun r s=>r=.tup [.agg [.str ti,.sl T.length 0 (xs.length+1) (xs.length+1)],.int .i64 0]/\s=T++[.arr 5 ((x::xs).map scA),.arr 2 [.agg [.str ti,.sl T.length 0 (xs.length+1) (xs.length+1)]]]) :=
 CtH.impF ((BeQ hS ti x xs hx).liftN rfl (by rintro _ _ ⟨_,rfl⟩; rfl) T) (by
  rintro _ _ ⟨_,_,⟨rfl,rfl⟩,rfl,rfl⟩;simp only[↓BmD,↓sh_sc,shV,shC,sh1,shB,List.map_cons,List.map_nil,Nat.zero_add];exact⟨trivial,trivial⟩)
theorem AzF:Pc prog 53 [.str [73,78,84,46]] (· = .bool false):=by
 have e0:digI (73:UInt8).toNat=false:=by decide
 have e1:capI (73:UInt8).toNat=true:=by decide
 have e2:capI (78:UInt8).toNat=true:=by decide
 have e3:capI (84:UInt8).toNat=true:=by decide
 have e4:capI (46:UInt8).toNat=false:=by decide
 refine AbI (AaU func53 rfl ntmps53 hB53 (by simp) fun h ρ w=>go rfl 200 ?_);simp only[go_sem];refine AcL (around (zgN ?_));simp only[go_sem];refine zpN (AjI _) ?_;simp only[go_sem,e0];refine AcL (around (zgN ?_));simp only[go_sem];refine zpN (AbK _) ?_;simp only[go_sem,e1];refine AdE (around (zgN ?_));simp only[go_sem];refine zpN (AbK _) ?_;simp only[go_sem,e2];refine AdE (around (zgN ?_));simp only[go_sem];refine zpN (AbK _) ?_;simp only[go_sem,e3];refine AdE (around (zgN ?_));simp only[go_sem];refine zpN (AbK _) ?_;simp only[go_sem,e4];exact aret [2] rfl ⟨by simp[resV,Av.get],rfl⟩
theorem AvZ(a b:List UInt8)(l:List AV)(hl:l.length<1000)(hn:(b==a)=false):Pc prog 73 [.fz 1 (.str a::.str b::l),.str b] (· = .int .i64 1):=by
 refine AbI (AaU func73 rfl ntmps73 hB73 (by simp) fun h ρ w=>go rfl 200 ?_);have d0:decide ((0:Int)<((l.length+1+1:Nat):Int))=true:=by simp; omega
 have d1:decide ((1:Int)<((l.length+1+1:Nat):Int))=true:=by simp; omega
 simp only[go_sem];refine AcL (around (zgN ?_));simp only[go_sem,hn,d0,d1]
 repeat refine ao ?_
 refine AdE (around (zgN ?_));simp only[go_sem,d0,d1]
 repeat refine ao ?_
 exact aret [4] rfl ⟨by simp[resV,Av.get],rfl⟩
theorem A2H:Lib.cut [73,78,84,46,32,72,65,76,76,32,45,32,68,65,89] [32]=([73,78,84,46],[72,65,76,76,32,45,32,68,65,89],true):=by decide
theorem BaA:Lib.lastIndex [72,65,76,76,32,45,32,68,65,89] [32,45,32]=4:=by decide
theorem BeR:isSetL [72,65,76,76]=true:=by decide
def sceneE:AV:=.agg [.str [],.int .i64 1,.str [72,65,76,76],.int .i64 1,.raw (.slice none 0 0)]
theorem AoC{S:Std}(hS:LibOk S):PcH prog S 196 [.str [73,78,84,46,32,72,65,76,76,32,45,32,68,65,89]] (· = .tup [sceneE,.int .i64 0]):=by
 refine AcB (AcT func196 rfl ntmps196 hB196 (by simp) fun h ρ w hg=>go rfl 200 ?_);simp only[go_sem];refine zqN hg (ArN hS [73,78,84,46,32,72,65,76,76,32,45,32,68,65,89] [32] (by decide)) ?_;rw[A2H];simp only[go_sem];refine AcK AzF rfl rfl rfl (zgN ?_);simp only[go_sem];refine zqN hg (ArN hS [73,78,84,46,32,72,65,76,76,32,45,32,68,65,89] [32] (by decide)) ?_;rw[A2H];simp only[go_sem];refine zpN (AuD _ _ (by decide)) ?_;rw[BaA];simp only[go_sem];refine AcK place_pc rfl rfl rfl (zgN ?_);simp only[go_sem,placeW];refine zpN (AvZ _ _ _ (by decide) (by decide)) ?_;simp only[go_sem];refine zr [.fz 1 AoR,.int .i64 1] mixed ?_;simp only[go_sem,AoR];refine⟨time_pc.at,?_⟩;have dayI:=AvZ [] [68,65,89] [.str [78,73,71,72,84],.str [68,65,87,78],.str [68,85,83,75],.str [76,65,84,69,82]] (by decide) (by decide);refine⟨dayI.at,rfl,rfl,?_⟩;refine zgN ?_;simp only[go_sem];refine zqN hg (AmH hS [72,65,76,76] (by decide)) ?_;rw[BeR];simp only[go_sem];refine AbG [.cell 2 71,.tmp 3] rfl [sceneE,.int .i64 0] ⟨?_,rfl,trivial⟩ ⟨rfl,rfl⟩;simp only[go_sem,sideIs,sceneE]
 trace_state
theorem t35:((35:UInt8).toNat:Int)=35:=rfl
theorem t82:((82:UInt8).toNat:Int)=82:=rfl
theorem pre_head:Lib.trimPrefix [35,32,73,78,84,46,32,72,65,76,76,32,45,32,68,65,89] [35,32]=[73,78,84,46,32,72,65,76,76,32,45,32,68,65,89]:=by decide
theorem BeS:Lib.hasPrefix [35,32,73,78,84,46,32,72,65,76,76,32,45,32,68,65,89] [35,32]=true:=by decide
def T0(k:Int):List Blk:=[.arr 2 [.agg [.str [],.raw (.slice none 0 0)]],.arr 3 [.agg [.str [84],.raw (.slice none 0 0),.int .i64 k]]]
theorem BeT:Ct prog 87 [.ptr 1 1 0 0,.str []] (T0 0) (fun r s=>r=.bool true/\s=T0 1):=by
 refine zcIN func87 rfl fun h ρ w=>?_
 simp only[go_sem,T0];exact zt [4]
def T1(k:Int):List Blk:=[.arr 2 [.agg [.str [],.raw (.slice none 0 0)]],.arr 3 [.agg [.str [84],.sl 3 0 1 1,.int .i64 k]],
 .arr 5 [.agg [.str [],.int .i64 1,.str [72,65,76,76],.int .i64 1,.raw (.slice none 0 0)]],.arr 5 [.agg [.str [],.int .i64 1,.str [72,65,76,76],.int .i64 1,.raw (.slice none 0 0)]]]
theorem A4L{S:Std}(hS:LibOk S):CtH prog S 142 [.ptr 1 1 0 0,.str [35,32,73,78,84,46,32,72,65,76,76,32,45,32,68,65,89]] (T0 1) (fun r s=>r=.bool true/\s=T1 3):=by
 refine zdIN func142 rfl fun h ρ w hg=>?_
 simp only[go_sem,T0,t35];refine zpN (AkA _ _) ?_;rw[pre_head,BeS];simp only[go_sem];refine zqN hg (AoC hS) ?_;simp only[go_sem,sceneE];refine zr [] mixed ?_;simp only[go_sem];refine zgN ?_;simp only[go_sem];exact zt [4]
theorem BeU{S:Std}(hS:LibOk S):CtH prog S 87 [.ptr 1 1 0 0,.str [35,32,73,78,84,46,32,72,65,76,76,32,45,32,68,65,89]] (T0 1) (fun r s=>r=.bool true/\s=T1 3):=by
 refine zdIN func87 rfl fun h ρ w hg=>?_
 simp only[go_sem,T0];refine zaH hg (A4L hS) ?_;rintro _ _ ⟨rfl,rfl⟩;refine zgN ?_;simp only[go_sem];exact zt [4]
theorem BeV:Ct prog 87 [.ptr 1 1 0 0,.str []] (T1 3) (fun r s=>r=.bool true/\s=T1 2):=by
 refine zcIN func87 rfl fun h ρ w=>?_
 simp only[go_sem,T1];exact zt [4]
def T2:List Blk:=[.arr 2 [.agg [.str [],.raw (.slice none 0 0)]],.arr 3 [.agg [.str [84],.sl 3 0 1 1,.int .i64 3]],
 .arr 5 [.agg [.str [],.int .i64 1,.str [72,65,76,76],.int .i64 1,.raw (.slice none 0 0)]],.arr 5 [.agg [.str [],.int .i64 1,.str [72,65,76,76],.int .i64 1,.sl 5 0 1 1]],
 .arr 2 [.agg [.int .i64 1,.str [82,97,105,110,46]]],.arr 2 [.agg [.int .i64 1,.str [82,97,105,110,46]]]]
theorem BmE:Ct prog 194 [.ptr 1 1 0 0,.int .i64 1,.str [82,97,105,110,46]] (T1 2) (fun r s=>s=T2):=by
 refine zcIN func194 rfl fun h ρ w=>?_
 simp only[go_sem,T1];refine zr [] mixed ?_;simp only[go_sem];refine zgN ?_;simp only[go_sem];refine⟨.inl trivial,aret [] rfl rfl⟩
theorem A4M{S:Std}(hS:LibOk S):CtH prog S 142 [.ptr 1 1 0 0,.str [82,97,105,110,46]] (T1 2) (fun r s=>r=.bool true/\s=T2):=by
 refine zdIN func142 rfl fun h ρ w hg=>?_
 simp only[go_sem,T1,t82];refine A2Z BmE rfl rfl ?_;rintro r _ rfl;refine zgN ?_;simp only[go_sem];exact zt [4]
theorem BeW{S:Std}(hS:LibOk S):CtH prog S 87 [.ptr 1 1 0 0,.str [82,97,105,110,46]] (T1 2) (fun r s=>r=.bool true/\s=T2):=by
 refine zdIN func87 rfl fun h ρ w hg=>?_
 simp only[go_sem,T1];refine zaH hg (A4M hS) ?_;rintro _ _ ⟨rfl,rfl⟩;refine zgN ?_;simp only[go_sem];exact zt [4]
theorem BjR:plainL [84]=true:=by decide
def scriptA:AV:=.agg [.str [84],.fz 5 [sceneA]]
theorem A4N{S:Std}(hS:LibOk S):PcH prog S 18 [scriptA] (· = .int .i64 0):=by
 refine zqIN func18 rfl fun h ρ w hg=>?_
 simp only[go_sem,scriptA,sceneA];refine zqN hg (AcJ hS [84] (by decide)) ?_;rw[BjR];simp only[go_sem];refine AcL (around (zgN ?_));simp only[go_sem];refine AdE (around (zgN ?_));simp only[go_sem];refine AcL (around (zgN ?_));simp only[go_sem];refine zqN hg (A8L hS) ?_;simp only[go_sem];refine AdE (around (zgN ?_));simp only[go_sem];exact zt [2]
theorem bzero:∃ i,prog.info? 146=some i/\i.zero=some (.agg #[.pointer none,.slice none 0 0]):=Option.map_eq_some_iff.1 (show(prog.info? 146).map (·.zero)=some (some (.agg #[.pointer none,.slice none 0 0])) by kernel_rfl)
theorem AzG{S:Std}(hS:LibOk S):PcH prog S 89 [scriptA] (· = .str [116,105,116,108,101,58,32,84,10,10,35,32,73,78,84,46,32,72,65,76,76,32,45,32,68,65,89,10,10,82,97,105,110,46,10]):=by
 refine AcB (ApE func89 rfl ntmps89 hB89 (by simp) fun h ρ w hg hm=>go rfl 9 ?_);obtain⟨i,hi,hz⟩:=bzero;simp only[go_sem,scriptA,sceneA];refine BlA (T:=146) (t:=3) rfl rfl rfl ntmps89 (by decide) hi hz 5 ?_;intro b hb;refine zgN ?_;simp only[go_sem];refine A0K ArL rfl rfl rfl rfl (by decide) (zgN ?_);simp only[go_sem];refine AcL (around (zgN ?_));simp only[go_sem];refine AcK A3U rfl rfl rfl (zgN ?_);simp only[go_sem];refine A0K ArL rfl rfl rfl rfl (by decide) (zgN ?_);simp only[go_sem];refine AcL (around (zgN ?_));simp only[go_sem];refine A0K ArL rfl rfl rfl rfl (by decide) (zgN ?_);simp only[go_sem];refine AcK BiY rfl rfl rfl (zgN ?_);simp only[go_sem];refine A0K ArL rfl rfl rfl rfl (by decide) (zgN ?_);simp only[go_sem];refine A0L rfl (around (zgN ?_));simp only[go_sem];refine A0L rfl (around (zgN ?_));simp only[go_sem];refine BhV BcN rfl rfl rfl hm rfl rfl (zgN ?_);simp only[go_sem];exact zt [2]
theorem A4O:splitL [116,105,116,108,101,58,32,84,10,10,35,32,73,78,84,46,32,72,65,76,76,32,45,32,68,65,89,10,10,82,97,105,110,46,10] [10] =
  [[116,105,116,108,101,58,32,84],[],[35,32,73,78,84,46,32,72,65,76,76,32,45,32,68,65,89],[],[82,97,105,110,46],[]]:=by decide
theorem pre_title:Lib.trimPrefix [116,105,116,108,101,58,32,84] [116,105,116,108,101,58,32]=[84]:=by decide
theorem BaB:Lib.hasPrefix [116,105,116,108,101,58,32,84] [116,105,116,108,101,58,32]=true:=by decide
theorem BeX{S:Std}(hS:LibOk S):PcH prog S 36 [.str [116,105,116,108,101,58,32,84,10,10,35,32,73,78,84,46,32,72,65,76,76,32,45,32,68,65,89,10,10,82,97,105,110,46,10]] (· = .tup [scriptA,.int .i64 0,.int .i64 0]):=by
 refine zqIN func36 rfl fun h ρ w hg=>?_
 simp only[go_sem];refine zqN hg (A7A hS _ [10] (by decide) (by decide)) ?_;rw[A4O];simp only[go_sem];refine AcL (around (zgN ?_));simp only[go_sem];refine zpN (AkA _ _) ?_;rw[pre_title,BaB];simp only[go_sem];refine AdE (around (zgN ?_));simp only[go_sem];refine A2Z BeT rfl rfl ?_;rintro _ _ ⟨rfl,rfl⟩;refine zgN ?_;simp only[go_sem];refine AdE (around (zgN ?_));simp only[go_sem];refine zaH hg (BeU hS) ?_;rintro _ _ ⟨rfl,rfl⟩;refine zgN ?_;simp only[go_sem];refine AdE (around (zgN ?_));simp only[go_sem];refine A2Z BeV rfl rfl ?_;rintro _ _ ⟨rfl,rfl⟩;refine zgN ?_;simp only[go_sem];refine AdE (around (zgN ?_));simp only[go_sem];refine zaH hg (BeW hS) ?_;rintro _ _ ⟨rfl,rfl⟩;refine zgN ?_;simp only[go_sem];refine AWp.shift (Shift.weak (e':=[(27,.int .i64 5),(26,.int .i64 5),(25,.fz 1 [.str [116,105,116,108,101,58,32,84],.str [],.str [35,32,73,78,84,46,32,72,65,76,76,32,45,32,68,65,89],.str [],.str [82,97,105,110,46]]),
  (7,.ptr 1 1 0 0),(6,.int .i64 5),(5,.fz 1 [.str [116,105,116,108,101,58,32,84],.str [],.str [35,32,73,78,84,46,32,72,65,76,76,32,45,32,68,65,89],.str [],.str [82,97,105,110,46],.str []]),
  (2,.ptr 0 1 0 0),(0,.str [116,105,116,108,101,58,32,84,10,10,35,32,73,78,84,46,32,72,65,76,76,32,45,32,68,65,89,10,10,82,97,105,110,46,10])]) ?_) ?_
 .simp only [go_sem]
 refine AWp.shift (Shift.frz 5 rfl rfl) ?_;refine AWp.shift (Shift.frz 3 rfl rfl) ?_;simp only[T2,frzE,frzB,frzC,frz,frz1,Nat.reduceBEq,Bool.cond_true,Bool.cond_false,go_sem];refine AdE (around (zgN ?_));simp only[go_sem];refine zqN hg (A4N hS) ?_;simp only[go_sem];refine zqN hg (AzG hS) ?_;simp only[go_sem];refine AbG [.cell 2 28,.tmp 3,.tmp 4] rfl [scriptA,.int .i64 0,.int .i64 0] ⟨?_,rfl,rfl,trivial⟩ ⟨rfl,rfl⟩;simp only[go_sem,sideIs,scriptA,sceneA]
theorem AzH{S:Std}(hS:LibOk S):PcH prog S 10 [] (· = .bool true):=by
 refine zqIN func10 rfl fun h ρ w hg=>?_
 simp only[go_sem];refine zqN hg (BeX hS) ?_;simp only[go_sem,scriptA];exact zt [0]
def fitsB(no b:List UInt8):Bool:=no != []&&(b==[]||decide (AaC no b<0))
def btw(a b:List UInt8):Nat->Nat->List UInt8
 | 0,_=>[]
 | f+1,n=>if fitsB (nextL a n) b then nextL a n else btw a b f (n+1)
def betweenL(a b:List UInt8):List UInt8:=btw a b 6 0
theorem AzI{S:Std}(hS:LibOk S)(a b:List UInt8)(ha:okA a)(hb:b=[]\/(okD b/\b.length<1000000)):PcH prog S 71 [.str a,.str b] (· = .str (betweenL a b)):=by
 refine zqIN func71 rfl fun h ρ w hg=>?_
 simp only[go_sem];refine AaL (ι:=Nat) (fun i=>6-i) (fun i=>[(7,.int .i64 i),(4,.str []),(0,.str a),(1,.str b)]) (fun _=>[]) (fun i=>i<=6/\betweenL a b=btw a b (6-i) i) 0 ⟨by omega,rfl⟩ ?_ ?_
 .refine Shift.weak ?_
  simp only[go_sem]
 .rintro i ⟨g1,g2⟩ J hJ
  by_cases hi:i<6
  .have d1:decide ((i:Int)<6)=true:=by simp; omega
   have hn:=BcS (n:=i) (by omega) ha;rw[show 6-i=(6-(i+1))+1 by omega,btw]at g2;have again:fitsB (nextL a i) b=false->betweenL a b=btw a b (6-(i+1)) (i+1):=fun e=>by rw[e]at g2; simpa using g2
   have done:fitsB (nextL a i) b=true->betweenL a b=nextL a i:=fun e=>by rw[e]at g2; simpa using g2
   clear g2;unfold fitsB at again done;refine zgN ?_;simp only[go_sem,d1];refine zqN hg (BcQ hS a i (by omega) ha) ?_;generalize nextL a i=no at hn again done |-
   by_cases h0:no=[]
   .have e0:(no != [])=false:=by simp[h0]
    simp only[go_sem,e0];rw[ic i]
    repeat refine ao ?_
    refine ainv (hJ (i+1) ⟨by omega,again (by rw[e0]; rfl)⟩ (by omega)) (Shift.weak ?_);simp only[go_sem]
   .have e0:(no != [])=true:=by simp[h0]
    obtain⟨n1,n2,n3⟩:=hn.resolve_left h0
    by_cases hb0:b=[]
    .have eb:(b==[])=true:=by simp[hb0]
     simp only[go_sem,e0,eb];exact aret [4] rfl ⟨by rw[done (by rw[e0,eb]; rfl)]; rfl,rfl⟩
    .have eb:(b==[])=false:=by simp[hb0]
     obtain⟨b1,b2⟩:=hb.resolve_left hb0;simp only[go_sem,e0,eb];refine zpN (AmI no b (by omega) b2 n1 b1) ?_
     by_cases hc:AaC no b<0
     .have ec:decide (AaC no b<0)=true:=by simpa using hc
      simp only[go_sem,e0,eb,ec];exact aret [4] rfl ⟨by rw[done (by rw[e0,eb,ec]; rfl)]; rfl,rfl⟩
     .have ec:decide (AaC no b<0)=false:=by simpa using hc
      simp only[go_sem,e0,eb,ec];rw[ic i]
      repeat refine ao ?_
      refine ainv (hJ (i+1) ⟨by omega,again (by rw[e0,eb,ec]; rfl)⟩ (by omega)) (Shift.weak ?_);simp only[go_sem]
  .have d1:decide ((i:Int)<6)=false:=by simp; omega
   refine zgN ?_;simp only[go_sem,d1];have:i=6:=by omega
   subst this;exact aret [4] rfl ⟨by rw[g2]; rfl,rfl⟩
theorem A2I{c:UInt8}:∀ l:List UInt8,(∀ x∈l,x≠c)->Lib.index l [c]=-1
 | [],_=>rfl
 | b::l,h=>by
  have hb:(c==b)=false:=by simpa using fun e=>h b (by simp) e.symm
  have ih:=A2I l fun x hx=>h x (by simp[hx])
  simp[Lib.index,List.isPrefixOf,hb,ih]
theorem AqF{c:UInt8}(b:List UInt8):∀ a:List UInt8,(∀ x∈a,x≠c)->Lib.index (a++c::b) [c]=(a.length:Int)
 | [],_=>by simp[Lib.index,List.isPrefixOf]
 | x::a,h=>by
  have hb:(c==x)=false:=by simpa using fun e=>h x (by simp) e.symm
  have ih:=AqF b a fun y hy=>h y (by simp[hy])
  have hn:((a.length:Int)==-1)=false:=by
   rw[beq_eq_false_iff_ne]; omega
  simp only[List.cons_append,Lib.index,List.isPrefixOf,hb,ih,Bool.false_and,Bool.false_eq_true,if_false,hn,List.length_cons];omega
theorem AiW(p:UInt8->Bool):∀ (l:List UInt8)(x:UInt8),x∈l.takeWhile p->p x=true
 | [],x,h=>by simp at h
 | a::l,x,h=>by
  rw[List.takeWhile_cons]at h
  split at h
  .rcases List.mem_cons.1 h with rfl|h
   .assumption
   .exact AiW p l x h
  .simp at h
theorem AoD{a:List UInt8}(h:numberL a=true):∀ x∈a,x≠45:=by
 intro x hx e;subst e;rw[AdG a]at hx
 rcases List.mem_append.1 hx with hx|hx
 .exact absurd (AiW digB a 45 hx) (by decide)
 .exact absurd (List.all_eq_true.1 (AbQ h).2.2.2 45 hx) (by decide)
theorem BjS{a:List UInt8}(h:numberL a=true):Lib.cut a [45]=(a,[],false):=by
 unfold Lib.cut;rw[A2I a (AoD h),if_neg (by omega)]
theorem BjT{a:List UInt8}(h:numberL a=true)(b:List UInt8):Lib.cut (a++45::b) [45]=(a,b,true):=by
 unfold Lib.cut;rw[AqF b a (AoD h),if_pos (by omega)]
 simp
theorem AkK{a:List UInt8}(h:numberL a=true):leafNameL a=true:=by simp[leafNameL,BjS h,h]
theorem AwA{a b:List UInt8}(h:numberL a=true)(h':numberL b=true)(hl:nLt a b):leafNameL (a++45::b)=true:=by
 simp[leafNameL,BjT h,h,h',compareN_lt.2 hl]
theorem AoE{a:List UInt8}(h:numberL a=true):a≠[]:=fun e=>by subst e; exact absurd h (by decide)
theorem A2J{a b:List UInt8}(ha:a=[]\/numberL a=true):∀ f n,f+n<=6->btw a b f n≠[]->numberL (btw a b f n)=true/\(a=[]\/nLt a (btw a b f n))/\(b=[]\/nLt (btw a b f n) b)
 | 0,n,_,h=>absurd rfl h
 | f+1,n,hn,h=>by
  simp only[btw]at h |-
  split
  .rename_i hf
   simp only[fitsB,Bool.and_eq_true,bne_iff_ne,ne_eq,Bool.or_eq_true,beq_iff_eq,decide_eq_true_eq]at hf;obtain⟨h1,h2⟩:=A3L ha (n:=n) (by omega) hf.1;exact⟨h1,h2,hf.2.imp id compareN_lt.1⟩
  .rename_i hf
   rw[if_neg hf]at h;exact A2J ha f (n+1) (by omega) h
theorem AfW{a b:List UInt8}(ha:a=[]\/numberL a=true)(h:betweenL a b≠[]):numberL (betweenL a b)=true/\(a=[]\/nLt a (betweenL a b))/\(b=[]\/nLt (betweenL a b) b):=A2J ha 6 0 (by omega) h
theorem AiX{St:Std}(hS:LibOk St)(a b:List UInt8)(ha:a=[]\/numberL a=true)(hb:b=[]\/numberL b=true):PcH prog St 71 [.str a,.str b] (· = .str (betweenL a b)) :=
 AzI hS a b (ha.imp id fun h=>AaG h) (hb.imp id fun h=>⟨(AaG h).1,by have:=(AaG h).2.1; omega⟩)
def AfA(out:List (List UInt8))(last:List UInt8):List UInt8:=if out=[] then last else(endsL (out.getD (out.length-1) [])).2
def nameUp(upper last:List UInt8):Nat->List (List UInt8)->Option (List (List UInt8))
 | 0,out=>some out
 | n+1,out=>if betweenL (AfA out last) upper=[] then none else nameUp upper last n (out++[betweenL (AfA out last) upper])
def BaC(had:List (List UInt8))(many:Nat):List UInt8:=(endsL (had.getD (many-1) [])).1++45::(endsL (had.getD (had.length-1) [])).2
def AiY(had:List (List UInt8))(many:Nat)(last upper:List UInt8):Option (List (List UInt8)) :=
 if many<had.length then some ((had.take many).set (many-1) (BaC had many))
 else nameUp upper last (many-had.length) had
def namedA:Option (List (List UInt8))->AV
 | some g=>.tup [.fz 1 (g.map .str),.int .i64 0]
 | none=>.tup [.fz 1 [],.int .i64 11]
theorem BaD{St:Std}(hS:LibOk St)(had:List (List UInt8))(many:Nat)(last upper:List UInt8)(h1:1<=many)(h2:many<=100000)(h3:had.length<=100000)(hh:∀ n∈had,leafNameL n=true/\n.length<1000000)(hl:last=[]\/numberL last=true)(hu:upper=[]\/numberL upper=true) :
  PcH prog St 74 [.fz 1 (had.map .str),.int .i64 (many:Int),.str last,.str upper] (· = namedA (AiY had many last upper)):=by
 by_cases hle:many<=had.length
 .have dle:decide ((many:Int)<=(had.length:Int))=true:=by simp; omega
  have hcut:List.drop 0 (List.take many (List.map AV.str had))=List.map AV.str (had.take many):=by simp[List.map_take]
  have htl:(had.take many).length=many:=by simp; omega
  by_cases hlt:many<had.length
  .have dlt:decide ((many:Int)<(had.length:Int))=true:=by rw[decide_eq_true_eq]; omega
   have g1:many-1<had.length:=by omega
   have g2:had.length-1<had.length:=by omega
   have e1:((many:Int)-1).toNat=many-1:=by omega
   have e2:((had.length:Int)-1).toNat=had.length-1:=by omega
   have hg1:List.getD (had.map AV.str) (many-1) .any=.str (had.getD (many-1) []):=by simp[List.getD,g1]
   have hg2:List.getD (had.map AV.str) (had.length-1) .any=.str (had.getD (had.length-1) []):=by simp[List.getD,g2]
   have hgk:List.getD (List.map AV.str (had.take many)) (many-1) .any=.str ((had.take many).getD (many-1) []):=by
    have h:many-1<(had.take many).length:=by omega
    rw[AbX h,List.getD_eq_getElem?_getD,List.getElem?_eq_getElem h]; rfl
   have m1:=hh (had.getD (many-1) []) (by simp[List.getD,g1]);have m2:=hh (had.getD (had.length-1) []) (by simp[List.getD,g2]);have hn1:=AbO m1.1;have hn2:=AbO m2.1;have l1:=(AaG hn1.1).2.1;have l2:=(AaG hn2.2.1).2.1;have hr:AiY had many last upper=some ((had.take many).set (many-1) (BaC had many)):=if_pos hlt;rw[hr];have hst:(List.map AV.str (had.take many)).set (many-1) (.str (BaC had many))=List.map AV.str ((had.take many).set (many-1) (BaC had many)):=by simp
   simp only[BaC]at hst |-;have he1:=AeX hS (had.getD (many-1) []) m1.2;have he2:=AeX hS (had.getD (had.length-1) []) m2.2;generalize endsL (had.getD (many-1) [])=p1 at *;generalize endsL (had.getD (had.length-1) [])=p2 at *;have hap:p1.1++[45]++p2.2=p1.1++45::p2.2:=by simp
   refine zqIB func74 rfl fun h ρ w hg=>?_
   simp only[go_sem,dle,hcut,List.length_map]
   repeat refine aqa ?_
   rw[<- List.map_take];refine za (AiI [] ((had.take many).map .str) (AlC _) (by simp; omega)) ?_;rintro _ _ ⟨rfl,rfl⟩;refine zgB ?_;simp only[go_sem,dlt,e1,hg1,List.length_map,htl]
   repeat refine aqa ?_
   refine zqB hg (he1) ?_;simp only[go_sem,dlt,e1,e2,hg2,List.length_map,htl]
   repeat refine aqa ?_
   refine zqB hg (he2) ?_;simp only[go_sem,dlt,e1,e2,hap,hgk,hst,List.length_map,htl]
   repeat refine aqa ?_
   refine ARet.shift (Shift.freeze 8 (id:=0) rfl rfl ?_ (Nat.le_refl _) (AbN _)) (aret [8,9] rfl ⟨?_,rfl⟩)
   .simp; omega
   .have htk:List.take many ((List.take many had).set (many-1) (p1.1++45::p2.2))=(List.take many had).set (many-1) (p1.1++45::p2.2):=List.take_of_length_le (by simp; omega)
    simp only[resV,Av.get,Av.put,namedA,List.map_cons,List.map_nil,List.drop_zero,<- List.map_take,htk];rfl
  .have hme:many=had.length:=by omega
   have dlt:decide ((many:Int)<(had.length:Int))=false:=by simp; omega
   have hr:AiY had many last upper=some had:=by
    unfold AiY;rw[if_neg hlt,hme,Nat.sub_self]; simp[nameUp]
   rw[hr];have htk:had.take many=had:=List.take_of_length_le (by omega);rw[htk]at hcut;refine zqIB func74 rfl fun h ρ w hg=>?_
   simp only[go_sem,dle,hcut,List.length_map]
   repeat refine aqa ?_
   rw[<- List.map_take,htk];refine za (AiI [] (had.map .str) (AlC _) (by simp; omega)) ?_;rintro _ _ ⟨rfl,rfl⟩;refine zgB ?_;simp only[go_sem,dlt,List.length_map];refine ARet.shift (Shift.freeze 8 (id:=0) rfl rfl (by simp) (Nat.le_refl _) (AbN _)) (aret [8,9] rfl ⟨?_,rfl⟩)
   simp[resV,Av.get,Av.put,namedA,List.take_of_length_le]
 .have dle:decide ((many:Int)<=(had.length:Int))=false:=by simp; omega
  have hr:AiY had many last upper=nameUp upper last (many-had.length) had:=if_neg (by omega);rw[hr];generalize hR:nameUp upper last (many-had.length) had=R;refine zqIB func74 rfl fun h ρ w hg=>?_
  simp only[go_sem,dle,List.length_map];refine za (AiI [] (had.map .str) (AlC _) (by simp; omega)) ?_;rintro _ _ ⟨rfl,rfl⟩;refine zgB ?_;simp only[go_sem,List.length_map];refine AaL (ι:=List (List UInt8)×List UInt8) (fun y=>many-y.1.length)
   (fun y=>[(15,.sl 0 0 y.1.length y.1.length),(1,.int .i64 many),(2,.str y.2),(3,.str upper)])
   (fun y=>[.arr 1 (y.1.map .str)])
   (fun y=>had.length<=y.1.length/\y.1.length<=many/\(y.1=[]->y.2=last)/\(∀ n∈y.1,leafNameL n=true/\n.length<1000000)/\nameUp upper last (many-y.1.length) y.1=R) (had,last) ⟨Nat.le_refl _,by simp only; omega,fun _=>rfl,hh,hR⟩ ?_ ?_
  .refine Shift.weakS ?_ (by simp)
   simp only[go_sem]
  .rintro ⟨out,la⟩ ⟨g1,g2,g3,g4,g5⟩ J hJ
   simp only at g1 g2 g3 g4 g5 hJ |-
   by_cases gi:out.length<many
   .have di:decide ((out.length:Int)<(many:Int))=true:=by simp; omega
    obtain⟨m,hm⟩:∃ m,many-out.length=m+1:=⟨many-out.length-1,by omega⟩;rw[hm,nameUp]at g5;have hln:AfA out last=[]\/numberL (AfA out last)=true:=by
     unfold AfA
     split
     .exact hl
     .rename_i hne
      have:=List.length_pos_iff.2 hne;have hlt:out.length-1<out.length:=by omega
      exact .inr (AbO (g4 _ (by simp[List.getD,hlt])).1).2.1
    have hbt:=AiX hS (AfA out last) upper hln hu;have hlen:(out.map AV.str).length=out.length:=by simp
    by_cases hb0:betweenL (AfA out last) upper=[]
    .have db:(betweenL (AfA out last) upper==[])=true:=by simpa using hb0
     rw[if_pos hb0]at g5;subst g5
     by_cases h0:out=[]
     .have hla:=g3 h0
      have hl0:AfA out last=last:=if_pos h0;rw[hl0]at hbt db;subst hla;have dz:decide ((out.length:Int)>0)=false:=by simp[h0]
      refine zgB ?_;simp only[go_sem,di,dz,hlen];refine zqB hg (hbt) ?_;simp only[go_sem,db];refine ARet.shift (Shift.nilfz 8 1 rfl) (aret [8,9] rfl ⟨?_,rfl⟩)
      simp[resV,Av.get,Av.put,namedA]
     .have hpos:=List.length_pos_iff.2 h0
      have hl0:AfA out last=(endsL (out.getD (out.length-1) [])).2:=if_neg h0;have hlt:out.length-1<out.length:=by omega
      have dz:decide ((out.length:Int)>0)=true:=by rw[decide_eq_true_eq]; omega
      have e1:((out.length:Int)-1).toNat=out.length-1:=by omega
      have hg1:List.getD (out.map AV.str) (out.length-1) .any=.str (out.getD (out.length-1) []):=by simp[List.getD,hlt]
      have he:=AeX hS (out.getD (out.length-1) []) (g4 _ (by simp[List.getD,hlt])).2;rw[hl0]at hbt db;refine zgB ?_;simp only[go_sem,di,dz,e1,hg1,hlen]
      repeat refine aqa ?_
      refine zqB hg (he) ?_;simp only[go_sem];refine zqB hg (hbt) ?_;simp only[go_sem,db];refine ARet.shift (Shift.nilfz 8 1 rfl) (aret [8,9] rfl ⟨?_,rfl⟩)
      simp[resV,Av.get,Av.put,namedA]
    .have db:(betweenL (AfA out last) upper==[])=false:=by simpa using hb0
     rw[if_neg hb0]at g5;have hsp:=AfW hln hb0;have hfin:=fun la'=>hJ (out++[betweenL (AfA out last) upper],la') ⟨by simp; omega,by simp; omega,fun h=>absurd h (by simp),fun n hn=>by
      rcases List.mem_append.1 hn with hn|hn
      .exact g4 n hn
      .rw [List.mem_singleton.1 hn]; exact⟨AkK hsp.1,by have:=(AaG hsp.1).2.1; omega⟩,by
       simp only[List.length_append,List.length_cons,List.length_nil];rw[show many-(out.length+(0+1))=m by omega]; exact g5⟩ (by simp; omega)
     have hap:List.map AV.str out++[.str (betweenL (AfA out last) upper)]=List.map AV.str (out++[betweenL (AfA out last) upper]):=by simp
     by_cases h0:out=[]
     .have hla:=g3 h0
      have hl0:AfA out last=last:=if_pos h0;rw[hl0]at hbt db hfin hap;subst hla;have dz:decide ((out.length:Int)>0)=false:=by simp[h0]
      refine zgB ?_;simp only[go_sem,di,dz,hlen];refine zqB hg (hbt) ?_;simp only[go_sem,db,hlen,hap]
      repeat refine aqa ?_
      refine ainv (hfin la) (Shift.weakS ?_ rfl);simp only[go_sem,List.length_append,List.length_cons,List.length_nil,Nat.zero_add]
     .have hpos:=List.length_pos_iff.2 h0
      have hl0:AfA out last=(endsL (out.getD (out.length-1) [])).2:=if_neg h0;have hlt:out.length-1<out.length:=by omega
      have dz:decide ((out.length:Int)>0)=true:=by rw[decide_eq_true_eq]; omega
      have e1:((out.length:Int)-1).toNat=out.length-1:=by omega
      have hg1:List.getD (out.map AV.str) (out.length-1) .any=.str (out.getD (out.length-1) []):=by simp[List.getD,hlt]
      have he:=AeX hS (out.getD (out.length-1) []) (g4 _ (by simp[List.getD,hlt])).2;rw[hl0]at hbt db hfin hap;refine zgB ?_;simp only[go_sem,di,dz,e1,hg1,hlen]
      repeat refine aqa ?_
      refine zqB hg (he) ?_;simp only[go_sem];refine zqB hg (hbt) ?_;simp only[go_sem,db,hlen,hap]
      repeat refine aqa ?_
      refine ainv (hfin (endsL (out.getD (out.length-1) [])).2) (Shift.weakS ?_ rfl);simp only[go_sem,List.length_append,List.length_cons,List.length_nil,Nat.zero_add]
   .have di:decide ((out.length:Int)<(many:Int))=false:=by rw[decide_eq_false_iff_not]; omega
    have hm0:many-out.length=0:=by omega
    rw[hm0,nameUp]at g5;subst g5;have hlen:(out.map AV.str).length=out.length:=by simp
    refine zgB ?_;simp only[go_sem,di,hlen];refine ARet.shift (Shift.freeze 8 (id:=0) rfl rfl (by simp) (Nat.le_refl _) (AbN _)) (aret [8,9] rfl ⟨?_,rfl⟩)
    simp[resV,Av.get,Av.put,namedA,List.take_of_length_le]
