/- Constants run by themselves (9): calls whose contracts are known. -/
import Derived.Test.YtooohdocabpblaaGreatDoorV23
import Derived.Lib.AtoiErrMem
set_option linter.all false
namespace Go.Av
open RowKit
variable [Tr]
def orcS:List (FuncId×(LA->Option AV))->Cl
 | [],_,_,_=>none
 | x::T,f,args,s=>match f==x.1 with
  | true=>match x.2 args with
   | some r=>fA 3 r fun r=>some (r,s)
   | none=>none
  | false=>orcS T f args s
def orcB(a b:Cl):Cl:=fun f args s=>match a f args s with
 | some x=>some x
 | none=>b f args s
section
variable {P:Program}{g:Std}
theorem AmK:∀ {T:List (FuncId×(LA->Option AV))},(∀ x∈T,∀ args r,x.2 args=some r->PcH P g x.1 args (· = r)/\args.all nr1=true)->ClOk P g (orcS T)
 | [],_,f,args,s,r,s',h=>by cases h
 | x::T,H,f,args,s,r,s',h=>by
  simp only[orcS]at h
  split at h
  .rename_i hf
   have hf:f=x.1:=by simpa using hf
   subst hf
   split at h
   .rename_i r1 h1
    rw[fA_eq]at h;simp only[lad,laq]at h;obtain⟨rfl,rfl⟩:=h;obtain⟨hc,ha⟩:=H x (by simp) args r1 h1;exact hc.cth ha s
   .cases h
  .exact AmK (fun y hy=>H y (by simp[hy])) f args s r s' h
theorem AxU{a b:Cl}(ha:ClOk P g a)(hb:ClOk P g b):ClOk P g (orcB a b):=by
 intro f args s r s' h;unfold orcB at h
 split at h
 .rename_i x hx
  simp only[lad]at h;subst h;exact ha f args s _ _ hx
 .exact hb f args s r s' h
mutual
def leA:AV->AV->Bool
 | .raw (.slice none 0 0),.fz _ []=>true
 | .fz e l,.fz e' l'=>decide (e=e')&&leL l l'
 | .agg l,.agg l'=>leL l l'
 | .tup l,.tup l'=>leL l l'
 | a,b=>eqA a b
def leL:LA->LA->Bool
 | [],[]=>true
 | x::l,y::m=>leA x y&&leL l m
 | _,_=>false
end
theorem AqX:∀ {l m:LA},leL l m=true->l.length=m.length
 | [],[],_=>rfl
 | [],_::_,h=>by simp[leL]at h
 | _::_,[],h=>by simp[leL]at h
 | x::l,y::m,h=>by simp only[leL,lac]at h; simp[AqX h.2]
theorem AoV{a b:AV}(h:leA a b=true):(cellsOf a).length=(cellsOf b).length:=by
 unfold leA at h
 split at h
 .rfl
 .rfl
 .exact AqX h
 .rfl
 .rw [AbB _ _ h]
theorem AoW{e:Nat}:∀ {l m:LA},leL l m=true->(∀ x∈l,(cellsOf x).length=e)->∀ y∈m,(cellsOf y).length=e
 | [],[],_,_,y,hy=>by cases hy
 | [],_::_,h,_,_,_=>by simp[leL]at h
 | _::_,[],h,_,_,_=>by simp[leL]at h
 | x::l,z::m,h,H,y,hy=>by
  simp only[leL,lac]at h
  rcases List.mem_cons.1 hy with rfl|hy
  .rw [<- AoV h.1]; exact H x (by simp)
  .exact AoW h.2 (fun q hq=>H q (by simp[hq])) y hy
section
variable {h:Mem}{Lf:Value->AV->Prop}
theorem RL.split{fl:Bool}:∀ {l m:LA}{vs:List Value},RL h Lf fl vs (l++m)->∃ v1 v2,vs=v1++v2/\RL h Lf fl v1 l/\RL h Lf fl v2 m
 | [],m,vs,r=>⟨[],vs,rfl,.nil,r⟩
 | a::l,m,vs,r=>by
  cases r with
  | cons r1 r2 =>
   obtain⟨v1,v2,rfl,h1,h2⟩:=RL.split r2;exact⟨_::v1,v2,rfl,.cons r1 h1,h2⟩
mutual
theorem RV.le:∀ (a b:AV)(v:Value),leA a b=true->RV h Lf true v a->RV h Lf true v b
 | .fz e l,b,v,hl,r=>by
  cases b with
  | fz e' l' =>
   simp only[leA,lac,lar]at hl;obtain⟨rfl,hl⟩:=hl;have hlen:=AqX hl
   cases r with
   | fznil=>cases l' with
    | nil=>exact .fznil _
    | cons y m=>simp[leL]at hl
   | fz b o c esz l vs h1 h2 h3 h4 =>
    rw[hlen];exact .fz b o c e l' vs (RL.leF l l' vs hl h1) (AoW hl h2) h3 (by omega)
  | _=>exact absurd hl (by simp[leA,eqA])
 | .agg l,b,v,hl,r=>by
  cases b with
  | agg l' =>
   simp only[leA]at hl
   cases r with
   | agg vs l h1=>exact .agg vs l' (RL.le l l' vs hl h1)
  | _=>exact absurd hl (by simp[leA,eqA])
 | .tup l,b,v,hl,r=>by
  cases b with
  | tup l' =>
   simp only[leA]at hl
   cases r with
   | tup vs l h1=>exact .tup vs l' (RL.le l l' vs hl h1)
  | _=>exact absurd hl (by simp[leA,eqA])
 | .raw u,b,v,hl,r=>by
  cases r
  by_cases hq:u=.slice none 0 0/\∃ e,b=.fz e []
  .obtain ⟨rfl,e,rfl⟩:=hq
   exact .fznil _
  .have:eqA (.raw u) b=true:=by
    unfold leA at hl
    split at hl
    .rename_i h2
     injection h2 with h2
     exact absurd ⟨h2,_,rfl⟩ hq
    .rename_i h2; cases h2
    .rename_i h2; cases h2
    .rename_i h2; cases h2
    .exact hl
   rw[<- AbB _ _ this]; exact .raw _
 | .int k n,b,v,hl,r=>by rw[<- AbB _ _ (show eqA (.int k n) b=true by cases b <;> simpa[leA]using hl)]; exact r
 | .bool x,b,v,hl,r=>by rw[<- AbB _ _ (show eqA (.bool x) b=true by cases b <;> simpa[leA]using hl)]; exact r
 | .str x,b,v,hl,r=>by rw[<- AbB _ _ (show eqA (.str x) b=true by cases b <;> simpa[leA]using hl)]; exact r
 | .sl x y z t,b,v,hl,r=>by rw[<- AbB _ _ (show eqA (.sl x y z t) b=true by cases b <;> simpa[leA]using hl)]; exact r
 | .ptr x y z t,b,v,hl,r=>by rw[<- AbB _ _ (show eqA (.ptr x y z t) b=true by cases b <;> simpa[leA]using hl)]; exact r
 | .pin x y z t,b,v,hl,r=>by rw[<- AbB _ _ (show eqA (.pin x y z t) b=true by cases b <;> simpa[leA]using hl)]; exact r
 | .mp x,b,v,hl,r=>by rw[<- AbB _ _ (show eqA (.mp x) b=true by cases b <;> simpa[leA]using hl)]; exact r
 | .fn f x,b,v,hl,r=>by rw[<- AbB _ _ (show eqA (.fn f x) b=true by cases b <;> simpa[leA]using hl)]; exact r
 | .any,b,v,hl,r=>by rw[<- AbB _ _ (show eqA .any b=true by cases b <;> simpa[leA]using hl)]; exact r
theorem RL.le:∀ (l m:LA)(vs:List Value),leL l m=true->RL h Lf true vs l->RL h Lf true vs m
 | [],[],_,_,r=>r
 | [],_::_,_,hl,_=>by simp[leL]at hl
 | _::_,[],_,hl,_=>by simp[leL]at hl
 | x::l,y::m,vs,hl,r=>by
  simp only[leL,lac]at hl
  cases r with
  | cons r1 r2=>exact .cons (RV.le x y _ hl.1 r1) (RL.le l m _ hl.2 r2)
theorem RL.leF:∀ (l m:LA)(vs:List Value),leL l m=true->RL h Lf true vs (flat l)->RL h Lf true vs (flat m)
 | [],[],_,_,r=>r
 | [],_::_,_,hl,_=>by simp[leL]at hl
 | _::_,[],_,hl,_=>by simp[leL]at hl
 | .agg x::l,y::m,vs,hl,r=>by
  simp only[leL,lac]at hl;simp only[flat]at r |-;obtain⟨v1,v2,rfl,h1,h2⟩:=RL.split r;refine RL.append ?_ (RL.leF l m v2 hl.2 h2)
  cases y with
  | agg y=>exact RL.le x y v1 (by simpa[leA]using hl.1) h1
  | _=>exact absurd hl.1 (by simp[leA,eqA])
 | .int k n::l,y::m,vs,hl,r=>by
  simp only[leL,lac]at hl;simp only[flat]at r |-;obtain⟨v1,v2,rfl,h1,h2⟩:=RL.split r;refine RL.append ?_ (RL.leF l m v2 hl.2 h2);rw[<- AbB (.int k n) y (by cases y <;> simpa[leA]using hl.1)]; exact h1
 | .bool x::l,y::m,vs,hl,r=>by
  simp only[leL,lac]at hl;simp only[flat]at r |-;obtain⟨v1,v2,rfl,h1,h2⟩:=RL.split r;refine RL.append ?_ (RL.leF l m v2 hl.2 h2);rw[<- AbB (.bool x) y (by cases y <;> simpa[leA]using hl.1)]; exact h1
 | .str x::l,y::m,vs,hl,r=>by
  simp only[leL,lac]at hl;simp only[flat]at r |-;obtain⟨v1,v2,rfl,h1,h2⟩:=RL.split r;refine RL.append ?_ (RL.leF l m v2 hl.2 h2);rw[<- AbB (.str x) y (by cases y <;> simpa[leA]using hl.1)]; exact h1
 | .fz e x::l,y::m,vs,hl,r=>by
  simp only[leL,lac]at hl;simp only[flat]at r |-;obtain⟨v1,v2,rfl,h1,h2⟩:=RL.split r;refine RL.append ?_ (RL.leF l m v2 hl.2 h2)
  cases y with
  | fz e' y =>
   simp only[cellsOf]at h1 |-
   cases h1 with
   | cons r1 r2=>cases r2; exact .cons (RV.le (.fz e x) (.fz e' y) _ hl.1 r1) .nil
  | _=>exact absurd hl.1 (by simp[leA,eqA])
 | .raw u::l,y::m,vs,hl,r=>by
  simp only[leL,lac]at hl;simp only[flat]at r |-;obtain⟨v1,v2,rfl,h1,h2⟩:=RL.split r;refine RL.append ?_ (RL.leF l m v2 hl.2 h2);have hc:=AoV hl.1;simp only[cellsOf]at h1
  cases h1 with
  | cons r1 r2 =>
   cases r2
   have h3:=RV.le (.raw u) y _ hl.1 r1
   cases y with
   | agg y =>
    exfalso
    have:=hl.1;unfold leA at this
    split at this <;> first|(rename_i a b; cases b; done)|(rename_i a b; cases a; done)|simp[eqA]at this
   | _=>exact .cons h3 .nil
 | .tup x::l,y::m,vs,hl,r=>by
  simp only[leL,lac]at hl;simp only[flat]at r |-;obtain⟨v1,v2,rfl,h1,h2⟩:=RL.split r;refine RL.append ?_ (RL.leF l m v2 hl.2 h2)
  cases y with
  | tup y =>
   simp only[cellsOf]at h1 |-
   cases h1 with
   | cons r1 r2=>cases r2; exact .cons (RV.le (.tup x) (.tup y) _ hl.1 r1) .nil
  | _=>exact absurd hl.1 (by simp[leA,eqA])
 | .sl a b c d::l,y::m,vs,hl,r=>by
  simp only[leL,lac]at hl;simp only[flat]at r |-;obtain⟨v1,v2,rfl,h1,h2⟩:=RL.split r;refine RL.append ?_ (RL.leF l m v2 hl.2 h2);rw[<- AbB (.sl a b c d) y (by cases y <;> simpa[leA]using hl.1)]; exact h1
 | .ptr a b c d::l,y::m,vs,hl,r=>by
  simp only[leL,lac]at hl;simp only[flat]at r |-;obtain⟨v1,v2,rfl,h1,h2⟩:=RL.split r;refine RL.append ?_ (RL.leF l m v2 hl.2 h2);rw[<- AbB (.ptr a b c d) y (by cases y <;> simpa[leA]using hl.1)]; exact h1
 | .pin a b c d::l,y::m,vs,hl,r=>by
  simp only[leL,lac]at hl;simp only[flat]at r |-;obtain⟨v1,v2,rfl,h1,h2⟩:=RL.split r;refine RL.append ?_ (RL.leF l m v2 hl.2 h2);rw[<- AbB (.pin a b c d) y (by cases y <;> simpa[leA]using hl.1)]; exact h1
 | .mp a::l,y::m,vs,hl,r=>by
  simp only[leL,lac]at hl;simp only[flat]at r |-;obtain⟨v1,v2,rfl,h1,h2⟩:=RL.split r;refine RL.append ?_ (RL.leF l m v2 hl.2 h2);rw[<- AbB (.mp a) y (by cases y <;> simpa[leA]using hl.1)]; exact h1
 | .fn f c::l,y::m,vs,hl,r=>by
  simp only[leL,lac]at hl;simp only[flat]at r |-;obtain⟨v1,v2,rfl,h1,h2⟩:=RL.split r;refine RL.append ?_ (RL.leF l m v2 hl.2 h2);rw[<- AbB (.fn f c) y (by cases y <;> simpa[leA]using hl.1)]; exact h1
 | .any::l,y::m,vs,hl,r=>by
  simp only[leL,lac]at hl;simp only[flat]at r |-;obtain⟨v1,v2,rfl,h1,h2⟩:=RL.split r;refine RL.append ?_ (RL.leF l m v2 hl.2 h2);rw[<- AbB .any y (by cases y <;> simpa[leA]using hl.1)]; exact h1
end
end
def chkP(d:Nat)(r':AV):Option (AV×LB)->Bool
 | some (r,s)=>leA (borV d s r) r'
 | none=>false
theorem A8V{orc:Cl}(hmx:P.follows .mixedOrders=true)(ho:ClOk P g orc)(n d:Nat){f:FuncId}{args:LA}{r r':AV}{s':LB}(h:AhC P orc n f args []=some (r,s'))(hr:r'=borV d s' r):PcH P g f args (· = r') :=
 (PcH.ofOwn d (A2Y hmx ho n h)).mono fun x ⟨y,t,⟨h1,h2⟩,h3⟩=>by subst h1 h2; exact h3.trans hr.symm
theorem PcH.le{f:FuncId}{args:LA}{a b:AV}(hc:PcH P g f args (· = a))(hl:leA a b=true):PcH P g f args (· = b) :=
 ⟨hc.1,fun h w vs hg hm hv=>(hc.2 h w vs hg hm hv).mono fun _ _ ⟨v,r,h',x1,x2,x3,x4,x5,x6,x7⟩=>⟨v,b,h',x1,rfl,x3,x4,x5,x6,(x2▸x7).le _ _ _ hl⟩⟩
theorem PcH.leArgs{f:FuncId}{ax bx:LA}{post:AV->Prop}(hc:PcH P g f bx post)(hl:leL ax bx=true):PcH P g f ax post :=
 ⟨hc.1,fun h w vs hg hm hv=>hc.2 h w vs hg hm (hv.le _ _ _ hl)⟩
theorem AfW{orc:Cl}(hmx:P.follows .mixedOrders=true)(ho:ClOk P g orc)(n d:Nat){f:FuncId}{args:LA}{r':AV}(h:chkP d r' (AhC P orc n f args [])=true):PcH P g f args (· = r'):=by
 unfold chkP at h
 split at h
 .rename_i r s hc
  exact(A8V hmx ho n d hc rfl).le h
 .cases h
end
end Go.Av
set_option maxRecDepth 100000
set_option maxHeartbeats 4000000
namespace Go.Proofs.YtooohdocabpblaaGreatDoor
open Av RowKit Proofs.Tryz
def digB(c:UInt8):Bool:=digI c.toNat
def caps(s:LU):LU:=s.dropWhile digB
theorem AuJ{w w':World}(b:Below w.heap.size w w'):Same w w':=⟨b.os,b.tape,⟨b.output,trivial⟩,b.size,b.block⟩
theorem A5O(s:LU):∀ h vs',RL h Lf0 true vs' [.str s]->vs'=[.string ⟨s.toArray⟩]:=by
 intro h vs' r
 cases r with|cons r1 r=>cases r; grind[A2M]
theorem A5P(s:LU)(n:Int)(hl:s.length<=18)(h:Lib.atoi s=some n):Pc prog 209 [.str s] (· = .tup [.int .i64 n,.raw .nilIface]) :=
 ArY [_] (.tuple #[.int .i64 n,.nilIface]) hB209 (A5O s) (fun h=>.tup [_,_] [_,_] (.cons (.int _ _) (.cons (.raw _) .nil)))
  fun w=>(Any.strconv_Atoi Tryz.lays172 ⟨s.toArray⟩ n (by simpa[ByteArray.size]using hl) h w).mono fun e w' ⟨h1,t,h2⟩=>⟨h1,h2▸AuJ (Lib.bytesWorld_below _ _ _)⟩
theorem AeQ(a b:LU):Pc prog 35 [.str a,.str b] (· = .int .i64 (Lib.compareBytes a b)) :=
 ArY [_,_] (.int .i64 (Lib.compareBytes a b)) hB35 (AfP a b) (fun h=>.int _ _) fun w=>(Any.strings_Compare Tryz.lays106 ⟨a.toArray⟩ ⟨b.toArray⟩ w).mono fun e w' ⟨h1,h2⟩=>⟨h1,h2▸.refl w⟩
def oCmp:LA->Option AV
 | [.str a,.str b]=>some (.int .i64 (Lib.compareBytes a b))
 | _=>none
def A8W:LA->Option AV
 | [.str s]=>match decide (s.length<=18)with
  | true=>match Lib.atoi s with
   | some n=>some (.tup [.int .i64 n,.raw .nilIface])
   | none=>none
  | false=>none
 | _=>none
def A3B:LA->Option AV
 | [.str s,.str (c::p)]=>match decide (s.length<4294967281)with
  | true=>some (.fz 1 ((splitL s (c::p)).map .str))
  | false=>none
 | _=>none
def orcL:List (FuncId×(LA->Option AV)):=[(35,oCmp),(209,A8W),(43,A3B)]
theorem AqY{S:Std}(hS:LibOk S):ClOk prog S (orcS orcL):=by
 refine AmK fun x hx args r h=>?_
 simp only[orcL,lbf,List.not_mem_nil,or_false]at hx
 rcases hx with rfl|rfl|rfl
 .simp only [oCmp]at h
  split at h
  .simp only [lad]at h
   subst h;exact⟨(AeQ _ _).toH,rfl⟩
  .cases h
 .simp only [A8W]at h
  split at h
  .split at h
   .rename_i hl
    split at h
    .rename_i n hn
     simp only[lad]at h;subst h;exact⟨(A5P _ _ (of_decide_eq_true hl) hn).toH,rfl⟩
    .cases h
   .cases h
  .cases h
 .simp only [A3B]at h
  split at h
  .split at h
   .rename_i hl
    simp only[lad]at h;subst h;exact⟨AwQ hS _ _ (of_decide_eq_true hl) (by simp),rfl⟩
   .cases h
  .cases h
def oTwo(f:LU->LU->Bool):LA->Option AV
 | [.str a,.str b]=>match decide (a.length<4294967281)with
  | true=>some (.bool (f a b))
  | false=>none
 | _=>none
def orcT:List (FuncId×(LA->Option AV)):=[(241,oTwo Lib.hasPrefix),(146,oTwo Lib.hasSuffix),(242,oTwo Lib.contains)]
theorem AqZ{S:Std}{g:FuncId}{f:LU->LU->Bool}(hf:∀ a b:LU,a.length<4294967281->PcH prog S g [.str a,.str b] (· = .bool (f a b))){args:LA}{r:AV}(h:oTwo f args=some r):PcH prog S g args (· = r)/\args.all nr1=true:=by
 simp only[oTwo]at h
 split at h
 .split at h
  .rename_i hl
   simp only[lad]at h;subst h;exact⟨hf _ _ (of_decide_eq_true hl),rfl⟩
  .cases h
 .cases h
theorem A5Q{S:Std}(hS:LibOk S):ClOk prog S (orcS orcT):=by
 refine AmK fun x hx args r h=>?_
 simp only[orcT,lbf,List.not_mem_nil,or_false]at hx
 rcases hx with rfl|rfl|rfl
 .exact AqZ (fun a b _=>(AoI a b).toH) h
 .exact AqZ (fun a b hl=>(AoJ a b (by omega)).toH) h
 .exact AqZ (fun a b hl=>AoK hS a b hl) h
def orcA:Cl:=orcB (orcS orcL) (orcS orcT)
theorem ArA{S:Std}(hS:LibOk S):ClOk prog S orcA:=AxU (AqY hS) (A5Q hS)
theorem AxV:(PeopleL++SitesL).all (fun k=>chkP 1 (.bool true) (AhC prog orcA 60 155 [.str k] []))=true:=by kernel_rfl
theorem AxW{S:Std}(hS:LibOk S){k:LU}(h:k∈PeopleL++SitesL):PcH prog S 155 [.str k] (· = .bool true) :=
 AfW AaL (ArA hS) 60 1 (List.all_eq_true.1 AxV k h)
theorem AoX:NumL.all (fun k=>chkP 1 (.bool true) (AhC prog orcA 60 78 [.str k] []))=true:=by kernel_rfl
theorem AoY{S:Std}(hS:LibOk S){k:LU}(h:k∈NumL):PcH prog S 78 [.str k] (· = .bool true) :=
 AfW AaL (ArA hS) 60 1 (List.all_eq_true.1 AoX k h)
theorem AcQ(n a b:Int)(h1:a<=n)(h2:n<=b):Pc prog 154 [kI n,kI a,kI b] (· = .bool true):=by
 have d1:decide (n>=a)=true:=by simp; omega
 have d2:decide (n<=b)=true:=by simp; omega
 refine zpIN func154 rfl fun h ρ w=>?_
 simp only[go_sem,d1,d2];exact zt [6]
theorem AeR(n a b:Int)(h1:a<=n)(h2:n<=b):Pc prog 143 [kI n,kI a,kI b] (· = .bool true):=by
 have d1:decide (n>=a)=true:=by simp; omega
 have d2:decide (n<=b)=true:=by simp; omega
 refine zpIN func143 rfl fun h ρ w=>?_
 simp only[go_sem,d1,d2];exact zt [6]
end Go.Proofs.YtooohdocabpblaaGreatDoor
namespace Go.Av
open RowKit
variable [Tr]
def A0W:Blk->Blk->Prop
 | .arr e l,.arr e' l'=>e=e'/\l.length=l'.length
 | .arr _ _,_=>False
 | _,.arr _ _=>False
 | _,_=>True
def Like(s s':LB):Prop:=∀ id,A0W (s.getD id .dead) (s'.getD id .dead)
theorem AkV:∀ b,A0W b b
 | .arr _ _=>⟨rfl,rfl⟩
 | .mp _=>trivial
 | .it ..=>trivial
 | .dead=>trivial
theorem AuK:∀ {a b},A0W a b->A0W b a:=by
 intro a b h
 cases a <;> cases b <;> first|exact⟨h.1.symm,h.2.symm⟩|exact trivial|exact h.elim
theorem Like.symm{s s':LB}(h:Like s s'):Like s' s:=fun id=>AuK (h id)
def AmL:Op->Bool
 | .indexAddr ..|.fieldAddr ..=>true
 | .binOp .add ..|.binOp .sub ..=>true
 | _=>false
def A0X:Op->Bool
 | .store ..=>true
 | _=>false
theorem lenOp_calm{op:Op}(h:AmL op=true):calm op=true:=by
 cases op <;> first|rfl|grind[AmL]
theorem AeS{p:Prop}{s s':LB}(h:Like s s')(x:AV)(k:Nat):xptrAddIf p s x k=xptrAddIf p s' x k:=by
 unfold xptrAddIf
 split <;> try rfl
 rename_i id n j off;have:=h id
 cases h1:s.getD id .dead <;> cases h2:s'.getD id .dead <;> rw[h1,h2]at this <;> first|rfl|exact this.elim|skip
 obtain⟨rfl,e⟩:=this
 grind
theorem A0Y{P:Program}{e:Env}{s s':LB}(h:Like s s'){op:Op}(ho:AmL op=true):xop false true P e s op=xop false true P e s' op:=by
 cases op <;> try(exfalso; revert ho; simp[AmL]; done)
 .rename_i b t x y t2
  cases b <;> try(exfalso; revert ho; simp[AmL]; done)
  all_goals
   simp only[xop,AgZ]
   split
   .rfl
   .unfold AhU
    split <;> rfl
 .rename_i t x f
  simp only[xop,AbH]
  split
  .exact AeS h _ _
  .rfl
 .rename_i t x i
  simp only[xop];generalize ev e x=xv;generalize ev e i=iv;generalize P.underlying t=td;unfold AaV
  split
  .exact AeS h _ _
  .cases xv <;> try rfl
   rename_i id off len cap;have:=h id;simp only
   cases h1:s.getD id .dead <;> cases h2:s'.getD id .dead <;> rw[h1,h2]at this <;> first|rfl|exact this.elim|skip
   obtain⟨rfl,he⟩:=this;simp only[he]
  .rfl
theorem A0Z{s:LB}{id e:Nat}{l l':LA}(h:s.getD id .dead=.arr e l)(hl:l.length=l'.length):Like s (s.set id (.arr e l')):=by
 intro k
 by_cases hk:k=id
 .subst hk
  have e2:(s.set k (.arr e l')).getD k .dead=.arr e l':=by grind
  rw[h,e2];exact⟨rfl,hl⟩
 grind[AkV]
theorem AkW{c:Cx}{ops:Array Oper}{s s1:LB}{o:Oper}{cv v:AV}{e:Env}(ho:A0X o.op=true)(h:Does c ops s o cv e v s1):Like s s1:=by
 have hd:DoesOp c s o cv e v s1->Like s s1:=by
  intro h;unfold DoesOp at h
  cases hop:o.op <;> rw[hop]at ho h <;> try(exfalso; revert ho; simp[A0X]; done)
  rename_i t x u;simp only[xop]at h;generalize ev e x=xv at h;generalize cellsOf (ev e u)=vs at h;have hx:∀ q,AgR (tsize c.P t) s xv (ev e u)=q->(∃ p w s3,q=.sto p w s3/\Like s s3)\/q=.stuck:=by
   intro q hq;subst hq
   cases xv <;> try exact .inr rfl
   rename_i id n j off;simp only[AgR]
   cases hb:s.getD id .dead with
   | arr e' l=>exact .inl ⟨_,_,_,rfl,A0Z hb (by simp)⟩
   | mp es=>exact .inr rfl
   | it a b c=>exact .inr rfl
   | dead=>exact .inr rfl
  rcases hx _ rfl with⟨p,w,s3,e1,e2⟩|e1
  .rw [e1]at h
   simp only at h;rw[h.2.2.2];exact e2
  .rw [e1]at h
   exact h.elim
 unfold Does at h
 split at h
 .exact hd h
 .split at h
  .rcases h with⟨_,h⟩|⟨_,_,rfl⟩
   .exact hd h
   .exact fun _=>AkV _
  .exact h.elim
theorem DoesOp.like{c:Cx}{s s' s2:LB}{o:Oper}{cv v:AV}{e:Env}(hc:AmL o.op=true)(hl:Like s s2)(h:DoesOp c s o cv e v s'):DoesOp c s2 o cv e v s2:=by
 grind[lenOp_calm,DoesOp,A0Y]
theorem Does.like{c:Cx}{ops:Array Oper}{s s' s2:LB}{o:Oper}{cv v:AV}{e:Env}(hc:AmL o.op=true)(hl:Like s s2)(h:Does c ops s o cv e v s'):Does c ops s2 o cv e v s2:=by
 unfold Does at h |-
 split at h
 .exact h.like hc hl
 .split at h
  .rcases h with⟨h1,h⟩|⟨h1,h2,h⟩
   .exact .inl ⟨h1,h.like hc hl⟩
   grind
  omega
def swp(x y:Oper):Bool:=AmL x.op&&A0X y.op||A0X x.op&&AmL y.op
def okSw(ops:List Oper)(j i:Nat):Bool:=match ops[j]?,ops[i]? with
 | some oj,some oi=>oj.apart ops.toArray oi&&(together oj oi||swp oj oi)
 | _,_=>false
section
variable {cx:Cx}{ops:Array Oper}{s:LB}{K:Env->LB->Prop}
theorem Chain.swapS{opl:List Oper}(hops:ops=opl.toArray)(hK:∀ e e' s,Eqv e e'->K e s->K e' s){i j:Nat}{r:List Nat}(hok:okSw opl j i=true){e:Env}{s:LB}(c:Chain cx ops K (j::i::r) e s) :
  Chain cx ops K (i::j::r) e s:=by
 unfold okSw at hok
 split at hok
 rotate_left
 .grind
 rename_i oj oi hj' hi';have hj:ops[j]? = some oj:=by grind
 have hi:ops[i]? = some oi:=by grind
 simp at hok
 obtain⟨ha,hok⟩:=hok
 rcases hok with hok|hok
 .grind[Chain.swap]
 obtain⟨a1,a2,a3⟩:=Oper.apart_spec ha;simp only[Chain,hj,hi]at c |-;obtain⟨cv,v,s1,h1,cu,u,s2,h2,h3⟩:=c;have h2':Does cx ops s1 oi cu e u s2:=h2.agree fun t ht=>by
  grind[get_put]
 have h1':∀ {z z'},Does cx ops z oj cv e v z'->Does cx ops z oj cv (put e oi.dst u) v z':=fun hd=>hd.agree fun t ht=>by
  grind[get_put]
 have h3':=Chain.congr hK (AeC a2) h3;simp only[swp,Bool.or_eq_true,lac]at hok
 rcases hok with⟨c1,c2⟩|⟨c1,c2⟩
 .have e1:=h1.calm (lenOp_calm c1)
  subst e1;exact⟨cu,u,_,h2',cv,v,_,h1' (h1.like c1 (AkW c2 h2')),h3'⟩
 .have e2:=h2.calm (lenOp_calm c2)
  subst e2;exact⟨cu,u,_,h2'.like c2 (AkW c1 h1).symm,cv,v,_,h1' h1,h3'⟩
theorem Chain.frontS{opl:List Oper}(hops:ops=opl.toArray)(hK:∀ e e' s,Eqv e e'->K e s->K e' s){i:Nat}{r:List Nat}:∀ {l:List Nat}{e:Env}{s:LB},(∀ j∈l,okSw opl j i=true) ->
  Chain cx ops K (l++i::r) e s->Chain cx ops K (i::(l++r)) e s
 | [],_,_,_,c=>c
 | j::l,e,s,h,c=>by
  refine Chain.swapS hops hK (h j (by simp)) ?_;simp only[lah,Chain]at c |-
  split at c
  .obtain ⟨cv,v,s',h1,h2⟩:=c
   exact⟨cv,v,s',h1,Chain.frontS hops hK (fun k hk=>h k (by simp[hk])) h2⟩
  .exact c.elim
end
section
variable {c:Cx}{k:List It}{e:Env}{s:LB}
theorem A8X(cs:LA){id:Nat}{ops:List Oper}(hm:c.P.follows .mixedOrders=true)(hok:AfA (okSw ops) ops=true){N:Nat}(hN:c.fn.ntmps=N)(hdst:ops.all (fun o=>dOk N o.dst)=true)(n:Nat)
  (h:dx c ops k n ops cs e s):AWp c (.code (.region id ops.toArray true)::k) e s:=by
 intro a w hsim;have hch:=AfB (m:=0) (by grind) h;rw[<- List.range_eq_range']at hch;refine wp_region_any hm ?_;have hsim':Sim c e s a { w with drawn:=w.drawn+1 }:=by
  obtain⟨hh,ρ,hmm,hl,he,hdf,hsz,hX⟩:=hsim;have sm:=Same.drew w;exact⟨hh,ρ,hmm.same sm,hl.trans (Later.same sm),he,hdf,hsz,c.hx.later hmm (Later.same sm) hX⟩
 have hd:∀ o∈ops,dOk c.fn.ntmps o.dst=true:=fun o ho=>by grind
 refine AeD (Chain c ops.toArray (fun e s=>AWp c k e s)) hok (fun e s x=>x) (fun l i r e s hj x=>Chain.frontS rfl AWp.K hj x)
  (fun i o r e s a w Kc ho x hs hK=>?_)
  ops.length (Array.replicate ops.length false) (List.range ops.length) e s a _ (by simp) ?_ (by simp) ?_ hch hsim'
 .have ho':ops.toArray[i]? = some o:=by grind
  simp only[Chain,ho']at x;obtain⟨cv,v,s',h1,h2⟩:=x;exact AgH hs (hd o (laj ho)) h1 fun a w hs'=>hK _ _ a w h2 hs'
 .symm
  simp_all
 .intro i hi j hj
  by_cases h1:i<ops.length
  all_goals simp_all[waits]
end
end Go.Av
namespace Go.Proofs.YtooohdocabpblaaGreatDoor
open Av RowKit Proofs.Tryz
theorem AbG{c:Cx}{e e':Env}(V:LB){hc:c.sto=[]}(hw:wkl 0 e e'):Shift c e V e' []:=by
 have:=AeG (c:=c) (e:=e) (e':=e') [] [] V rfl (by simp[hc]) rfl rfl (by simpa using hw)
 simpa using this
theorem AmM(x:Minor)(k:Int)(h:MinorOk x)(hk:k<x.under):Pc prog 89 [minorA x,kI k] (· = kI 0):=by
 obtain⟨⟨a1,a2⟩,⟨b1,b2⟩,⟨c1,c2⟩,⟨d1,d2⟩,e1,e2⟩:=h;have hd:decide (x.under<=k)=false:=by simp; omega
 simp only[minorA];refine zpIB func89 rfl fun h ρ w=>?_
 simp only[go_sem];refine zpB (AcQ _ _ _ a1 a2) ?_;simp only[go_sem];refine zpB (AcQ _ _ _ b1 b2) ?_;simp only[go_sem];refine zpB (AcQ _ _ _ c1 c2) ?_;simp only[go_sem]
 repeat refine aqe ?_
 refine zpB (AcQ _ _ _ d1 d2) ?_;simp only[go_sem];refine zpB (AcQ _ _ _ e1 e2) ?_;simp only[go_sem,hd];exact zt [4]
theorem AjS(x:Pers)(h:PersOk x):Pc prog 91 [persA x] (· = kI 0):=by
 obtain⟨⟨a1,a2⟩,⟨b1,b2⟩,⟨c1,c2,c3⟩,⟨d1,d2⟩,⟨e1,e2⟩,⟨f1,f2⟩,g,ha,ho⟩:=h;have hto:decide (x.til>2000)=false:=by simp; omega
 have hg:decide ((x.away.length:Int)>20)=false:=by simp; omega
 simp only[persA];refine zpIB func91 rfl fun h ρ w=>?_
 simp only[go_sem];refine zpB (AcQ _ _ _ a1 a2) ?_;simp only[go_sem];refine zpB (AcQ _ _ _ b1 b2) ?_;simp only[go_sem];refine zpB (AcQ _ _ _ c1 c2) ?_;simp only[go_sem,hto];refine zpB (AcQ _ _ _ d1 d2) ?_;simp only[go_sem];refine zpB (AcQ _ _ _ e1 e2) ?_;simp only[go_sem];refine zpB (AcQ _ _ _ f1 f2) ?_;simp only[go_sem,hg,laa];refine AbP (ι:=Nat) (fun i=>x.away.length-i) (fun i=>[(53,kI i),(52,kI x.away.length),(51,.fz 2 (x.away.map spanA)),(1,.pin 9 [.agg [.str x.key,kI x.born,kI x.week,kI x.fr,kI x.til,.fz 2 (x.away.map spanA),kI x.long,kI x.rest,kI x.row]] 0 0)]) (fun _=>[]) (fun i=>i<=x.away.length) 0 (by simp) ?_ ?_
 .refine Ld ?_
  simp only[go_sem]
 intro i gi J hJ
 by_cases hi:i<x.away.length
 .have di:decide ((i:Int)<(x.away.length:Int))=true:=by simp; omega
  have p1:=AfO x.away hi;have q1:=ha _ (lae hi);have dt:decide ((x.away[i]).2>2000)=false:=by simp; omega
  have hfin:=hJ (i+1) (by omega) (by omega);apply zgB;simp only[go_sem,di,p1,spanA,laa]
  repeat refine aqf ?_
  refine zpB (AcQ _ _ _ q1.1 q1.2.1) ?_;simp only[go_sem,dt]
  by_cases h0:i=0
  .subst h0
   refine zr [] AaL ?_;simp only[go_sem];apply zgB;simp only[go_sem]
   repeat refine aqf ?_
   refine ainv hfin (AbG (hc:=rfl) _ ?_);simp only[go_sem]
   try rfl
  .have hgt:decide ((i:Int)>0)=true:=by simp; omega
   obtain⟨j,rfl⟩:∃ j,i=j+1:=⟨i-1,by omega⟩;have hj:j<x.away.length:=by omega
   have p2:=AfO x.away hj;have ho2:=List.pairwise_iff_getElem.1 ho j (j+1) hj hi (by omega);have dl:decide ((x.away[j+1]).1<=(x.away[j]).2)=false:=by simp; omega
   have e1:((j+1:Nat):Int)-1=(j:Int):=by omega
   refine zr [] AaL ?_;simp only[go_sem,hgt,e1,p2,spanA,dl,laa]
   repeat refine aqf ?_
   apply zgB;simp only[go_sem]
   repeat refine aqf ?_
   refine ainv hfin (AbG (hc:=rfl) _ ?_);simp only[go_sem]
   try rfl
 .have di:decide ((i:Int)<(x.away.length:Int))=false:=by simp; omega
  apply zgB;simp only[go_sem,di];exact zt [2]
theorem AoZ(x:Site)(h:SiteOk x):Pc prog 92 [siteA x] (· = kI 0):=by
 obtain⟨⟨a1,a2⟩,⟨b1,b2⟩,ha,ho⟩:=h;have hb:((x.suns.length:Int)==0)=false:=beq_eq_false_iff_ne.2 (by omega);have hg:decide ((x.suns.length:Int)>60)=false:=by simp; omega
 simp only[siteA];refine zpIB func92 rfl fun h ρ w=>?_
 simp only[go_sem];refine zpB (AcQ _ _ _ a1 a2) ?_;simp only[go_sem,hb,hg,laa];refine AbP (ι:=Nat) (fun i=>x.suns.length-i) (fun i=>[(23,kI i),(22,kI x.suns.length),(21,.fz 3 (x.suns.map sunA)),(1,.pin 3 [.agg [.str x.key,kI x.glow,.fz 3 (x.suns.map sunA)]] 0 0)]) (fun _=>[]) (fun i=>i<=x.suns.length) 0 (by simp) ?_ ?_
 .refine Ld ?_
  simp only[go_sem]
  try rfl
 intro i gi J hJ
 by_cases hi:i<x.suns.length
 .have di:decide ((i:Int)<(x.suns.length:Int))=true:=by simp; omega
  have p1:=AfN x.suns hi;obtain⟨⟨q1,q2⟩,q3,q4,q5⟩:=ha _ (lae hi);have t1:decide ((x.suns[i]).rise<x.glow)=false:=by simp; omega
  have t2:decide ((x.suns[i]).rise>=(x.suns[i]).set)=false:=by simp; omega
  have t3:decide ((x.suns[i]).set>1440-x.glow)=false:=by simp; omega
  have hfin:=hJ (i+1) (by omega) (by omega);apply zgB;simp only[go_sem,di,p1,sunA,laa]
  repeat refine aqf ?_
  refine zpB (AcQ _ _ _ q1 q2) ?_;simp only[go_sem,t1,t2,t3]
  repeat refine aqf ?_
  by_cases h0:i=0
  .subst h0
   refine zr [] AaL ?_;simp only[go_sem];apply zgB;simp only[go_sem]
   repeat refine aqf ?_
   refine ainv hfin (AbG (hc:=rfl) _ ?_);simp only[go_sem]
   try rfl
  .have hgt:decide ((i:Int)>0)=true:=by simp; omega
   obtain⟨j,rfl⟩:∃ j,i=j+1:=⟨i-1,by omega⟩;have hj:j<x.suns.length:=by omega
   have p2:=AfN x.suns hj;have ho2:=List.pairwise_iff_getElem.1 ho j (j+1) hj hi (by omega);have dl:decide ((x.suns[j+1]).day<=(x.suns[j]).day)=false:=by simp; omega
   have e1:((j+1:Nat):Int)-1=(j:Int):=by omega
   refine zr [] AaL ?_;simp only[go_sem,hgt,e1,p2,sunA,dl,laa]
   repeat refine aqf ?_
   apply zgB;simp only[go_sem]
   repeat refine aqf ?_
   refine ainv hfin (AbG (hc:=rfl) _ ?_);simp only[go_sem]
   try rfl
 .have di:decide ((i:Int)<(x.suns.length:Int))=false:=by simp; omega
  apply zgB;simp only[go_sem,di];exact zt [2]
def boolM(l:List LU):List (AV×AV):=l.map fun k=>(.str k,.bool true)
theorem AcI(k:LU):∀ (n:Nat)(l:List LU),k ∉ l->mfind .string (.str k) (boolM l) n=some none
 | _,[],_=>rfl
 | n,x::l,h=>by
  simp only[lbf,not_or]at h;have h1:(k==x)=false:=by simpa using h.1
  simp only[boolM,lak,mfind,keyEq,h1];exact AcI k (n+1) l h.2
theorem AcY(k:LU):∀ (n:Nat)(l:List LU),k∈l->∃ j,mfind .string (.str k) (boolM l) n=some (some (j,.bool true))
 | _,[],h=>by simp at h
 | n,x::l,h=>by
  by_cases h1:k=x
  .subst h1
   exact⟨n,by simp[boolM,mfind,keyEq]⟩
  .obtain ⟨j,hj⟩:=AcY k (n+1) l (by simpa[h1]using h)
   have h2:(k==x)=false:=by simpa using h1
   refine⟨j,?_⟩;simp only[boolM,lak,mfind,keyEq,h2];exact hj
theorem AbQ(l:List LU)(k:LU):boolM (l++[k])=boolM l++[(.str k,.bool true)]:=by simp[boolM]
theorem AbC(n:Nat)(l:List LU):lowB n (.mp (boolM l))=true:=by simp[lowB,boolM,lowV,lowC,Av.frozen]
theorem AgX{S:Std}(hS:LibOk S)(l:List LU)(k:LU)(T:LB)(hk:k∈PeopleL++SitesL)(hn:k ∉ l)(hl:l.length<=1000) :
  CtH prog S 90 [.str k,.mp 0] (.mp (boolM l)::T) (fun r s=>r=kI 0/\s=.mp (boolM (l++[k]))::T):=by
 have f1:=AcI k 0 l hn;have hlen:(boolM l).length=l.length:=by simp[boolM]
 rw[AbQ];refine zdIB func90 rfl fun h ρ w hg=>?_
 simp only[go_sem];refine zqB hg (AxW hS hk) ?_;simp only[go_sem,f1];exact zt [4]
