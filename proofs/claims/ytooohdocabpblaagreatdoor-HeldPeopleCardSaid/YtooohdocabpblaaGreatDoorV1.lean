/- The library contracts laid at this seat, in the plain words that a tool of the kit has. -/
import Derived.Shelf.Small.Wraps
import Derived.Shelf.Strings.Prefix
import Derived.Shelf.Strings.LastIndexAll
import Derived.Shelf.Strings.Split
import Derived.Shelf.Strings.Cut
import Derived.Shelf.Strings.Search3
import Derived.Shelf.Small.Strs
import Derived.Shelf.Strings.Builder1
import Derived.Shelf.Strconv.Atoi
import Derived.Shelf.Strconv.Itoa3
import Derived.Shelf.Strings.Repeat
import Derived.Test.YtooohdocabpblaaGreatDoorProg
import Derived.WalkKit
import Derived.Orders
import Derived.Deep.MidRow
import Derived.Laws.CopyRow
namespace Go.Proofs
open Shelf Proofs.Tryz
def Tryz.lays99_ren:Go.Shelf.Ren:=⟨fun|99=>241|206=>265|n=>n,fun|9=>9|4=>4|3=>3|n=>n,fun|n=>n⟩
theorem Tryz.lays99:Go.Proofs.Lays.n99 prog Tryz.lays99_ren:=by constructor <;> intros <;> kernel_rfl
def Tryz.lays100_ren:Go.Shelf.Ren:=⟨fun|100=>146|207=>197|n=>n,fun|9=>9|4=>4|3=>3|n=>n,fun|n=>n⟩
theorem Tryz.lays100:Go.Proofs.Lays.n100 prog Tryz.lays100_ren:=by constructor <;> intros <;> kernel_rfl
def Tryz.lays146_ren:Go.Shelf.Ren:=⟨fun|146=>43|221=>86|268=>150|138=>151|143=>152|195=>204|197=>205|218=>206|219=>207|260=>245|217=>246|225=>247|224=>248|267=>249|266=>267|314=>268|n=>n,fun|9=>9|31=>58|3=>3|4=>4|0=>0|105=>332|21=>21|5=>5|46=>132|119=>372|139=>375|138=>374|146=>376|51=>206|n=>n,fun|1=>2|3=>3|4=>4|n=>n⟩
theorem Tryz.lays146:Go.Proofs.Lays.n146 prog Tryz.lays146_ren:=by constructor <;> intros <;> kernel_rfl
def Tryz.lays144_ren:Go.Shelf.Ren:=⟨fun|144=>242|143=>152|219=>207|217=>246|225=>247|224=>248|267=>249|266=>267|314=>268|n=>n,fun|9=>9|4=>4|3=>3|5=>5|46=>132|146=>376|51=>206|n=>n,fun|1=>2|n=>n⟩
theorem Tryz.lays144:Go.Proofs.Lays.n144 prog Tryz.lays144_ren:=by constructor <;> intros <;> kernel_rfl
def Tryz.lays106_ren:Go.Shelf.Ren:=⟨fun|106=>35|213=>65|265=>136|n=>n,fun|9=>9|3=>3|n=>n,fun|n=>n⟩
theorem Tryz.lays106:Go.Proofs.Lays.n106 prog Tryz.lays106_ren:=by constructor <;> intros <;> kernel_rfl
def Tryz.lays172_ren:Go.Shelf.Ren:=⟨fun|172=>209|244=>251|245=>252|247=>269|279=>270|280=>271|281=>272|282=>273|287=>278|316=>279|171=>281|205=>280|321=>282|322=>283|243=>284|246=>285|283=>286|284=>287|285=>288|286=>289|129=>76|317=>290|318=>291|319=>292|320=>293|337=>294|338=>295|n=>n,fun|9=>9|3=>3|75=>338|76=>339|4=>4|5=>5|167=>378|37=>379|0=>0|85=>380|2=>2|168=>382|53=>208|175=>387|46=>132|210=>391|127=>395|145=>398|143=>396|21=>21|171=>400|173=>402|212=>405|51=>206|20=>20|213=>406|232=>407|233=>408|80=>409|n=>n,fun|15=>5|16=>6|17=>7|18=>8|19=>9|n=>n⟩
theorem Tryz.lays172:Go.Proofs.Lays.n172 prog Tryz.lays172_ren:=by constructor <;> intros <;> kernel_rfl
end Go.Proofs
set_option linter.all false
namespace Go
abbrev LU:=List UInt8
theorem laa{α β}{qs:List α}(f:α->β):(List.map f qs).length=qs.length:=List.length_map f
theorem lab{α}(qs bs cs:List α):qs++bs++cs=qs++(bs++cs):=List.append_assoc qs bs cs
theorem lac(a b:Bool):((a && b)=true)=(a=true/\b=true):=Bool.and_eq_true a b
theorem lad{α}(val val':α):(some val=some val')=(val=val'):=Option.some.injEq val val'
theorem lae{α}{l:List α}{n:Nat}(h:n < l.length):l[n]∈l:=List.getElem_mem h
theorem laf{α}{i:Nat}{l:List α}(h:l.length<=i):List.take i l=l:=List.take_of_length_le h
theorem lag{α}{i:Nat}{l:List α}(h:i < l.length):List.take (i + 1) l=List.take i l++[l[i]]:=List.take_succ_eq_append_getElem h
theorem lah{α}{a:α}{qs bs:List α}:a::qs++bs=a::(qs++bs):=rfl
theorem lai{α}(a b:α):(bif true then a else b)=a:=rfl
theorem laj{α}{l:List α}{i:Nat}{a:α}(e:l[i]?=some a):a∈l:=List.mem_of_getElem? e
theorem lak{α β}{f:α->β}{a:α}{l:List α}:List.map f (a::l)=f a::List.map f l:=List.map_cons
theorem lal(n:Nat):n<=n:=Nat.le_refl n
theorem lam{α}{l:List α}{i:Nat}{a:α}:l.getD i a=l[i]?.getD a:=List.getD_eq_getElem?_getD
theorem lan{α}{a:α}{qs:List α}:(a::qs).length=qs.length + 1:=rfl
theorem lao{α}{l₁ l₂:List α}{i:Nat}(hn:i < l₁.length):(l₁++l₂)[i]?=l₁[i]?:=List.getElem?_append_left hn
theorem lap{α}(a b:α):(bif false then a else b)=b:=rfl
theorem laq{α β}(fst:α)(snd:β)(fst':α)(snd':β):((fst, snd)=(fst', snd'))=(fst=fst'/\snd=snd'):=Prod.mk.injEq fst snd fst' snd'
theorem lar{p:Prop}[Decidable p]:(decide p=true)=p:=decide_eq_true_eq
theorem las{α}{l:List α}{i:Nat}(h:i < l.length):l[i]?=some l[i]:=List.getElem?_eq_getElem h
theorem lat{α}{qs bs:List α}:(qs++bs).length=qs.length + bs.length:=List.length_append
theorem lau(n m:Nat):n < m\/n ≥ m:=Nat.lt_or_ge n m
theorem lav{α β}{f:α->β}{l₁ l₂:List α}:List.map f (l₁++l₂)=List.map f l₁++List.map f l₂:=List.map_append
theorem law{α}{p:α->Bool}{l:List α}:l.all p=true↔∀ (x:α), x∈l->p x=true:=List.all_eq_true
theorem lax{α}(qs:List α):[]++qs=qs:=rfl
theorem lay{α'}{a:α'}{l:List α'}{f:α'->Bool}:(a::l).all f=(f a && l.all f):=rfl
theorem laz(b:Bool):((!b)=true)=(b=false):=Bool.not_eq_true' b
theorem lba{α}{l:List α}{i j:Nat}(h:i≠j){a:α}:(l.set i a)[j]?=l[j]?:=List.getElem?_set_ne h
theorem lbb{α}{i:Nat}{a:α}{l:List α}(h:a∈List.take i l):a∈l:=List.mem_of_mem_take h
theorem lbc(n:Nat):0 + n=n:=Nat.zero_add n
theorem lbd{α}{f:α->Bool}{xs ys:List α}:(xs++ys).all f=(xs.all f && ys.all f):=List.all_append
theorem lbe{α'}{l:List α'}:l.length=0->l=[]:=List.eq_nil_of_length_eq_zero
theorem lbf{α'}{b:α'}{l:List α'}{a:α'}:a∈b::l↔a=b\/a∈l:=List.mem_cons
theorem lbg(b:Bool):(b && true)=b:=Bool.and_true b
theorem lbh{α β}{f:α->β}{l:List α}{i:Nat}:(List.map f l)[i]?=Option.map f l[i]?:=List.getElem?_map
theorem lbi{α}{a:α}{i:Nat}{l:List α}(h:a∈List.drop i l):a∈l:=List.mem_of_mem_drop h
theorem lbk{n m:Nat}(k:Nat)(h:n<=m):n * k<=m * k:=Nat.mul_le_mul_right k h
theorem lbl{α'}{l:List α'}{α'1}{f g:α'->α'1}(h:∀ (a:α'), a∈l->f a=g a):List.map f l=List.map g l:=List.map_congr_left h
theorem lbm{α}:([]:List α).length=0:=rfl
theorem lbn{α}(qs:List α):qs++[]=qs:=List.append_nil qs
theorem lbo{α}{xs:Array α}{i:Nat}:xs.toList[i]?=xs[i]?:=Array.getElem?_toList
theorem lbp{α}{a:α}{l:List α}:(a::l)[0]?=some a:=rfl
theorem lbq{α}{l:List α}{i j:Nat}:(List.take i l)[j]?=if j < i then l[j]? else none:=List.getElem?_take
theorem lbr{α β}(a:α)(f:α->β):Option.map f (some a)=some (f a):=rfl
theorem lbs{α}{l:List α}{i:Nat}:List.drop i l=l[i]?.toList++List.drop (i + 1) l:=List.drop_eq_getElem?_toList_append
end Go
namespace Go.Av
open RowKit
inductive AV where
 | int (k:IntKind) (n:Int)
 | bool (b:Bool)
 | str (s:LU)
 | fz (esz:Nat) (l:List AV)
 | agg (l:List AV)
 | tup (l:List AV)
 | sl (id off len cap:Nat)
 | ptr (id n i off:Nat)
 | pin (esz:Nat) (l:List AV) (i off:Nat)
 | mp (id:Nat)
 | fn (f:Fn) (cap:List AV)
 | raw (v:Value)
 | any
abbrev LA:=List AV
def cellsOf:AV->LA
 | .agg l=>l
 | v=>[v]
def flat:LA->LA
 | []=>[]
 | x::r=>cellsOf x++flat r
abbrev Mem:=Nat->Nat->Option Value
mutual
inductive RV (h:Mem)(Lf:Value->AV->Prop):Bool->Value->AV->Prop
 | leaf {v a}:Lf v a->RV h Lf false v a
 | int {fl} (k n):RV h Lf fl (.int k n) (.int k n)
 | bool {fl} (b):RV h Lf fl (.bool b) (.bool b)
 | str {fl} (s:LU):RV h Lf fl (.string ⟨s.toArray⟩) (.str s)
 | raw {fl} (v):RV h Lf fl v (.raw v)
 | any {fl} (v):RV h Lf fl v .any
 | fznil {fl} (esz):RV h Lf fl (.slice none 0 0) (.fz esz [])
 | fz {fl} (b o c esz:Nat) (l:LA) (vs:List Value):RL h Lf true vs (flat l)->(∀ x∈l,(cellsOf x).length=esz) ->
   (∀ k v,vs[k]? = some v->h b (o+k)=some v)->l.length<=c->RV h Lf fl (.slice (some ⟨b,o,none⟩) l.length c) (.fz esz l)
 | pin {fl} (b o esz:Nat) (l:LA) (vs:List Value) (i off:Nat):RL h Lf true vs (flat l)->(∀ x∈l,(cellsOf x).length=esz) ->
   (∀ k v,vs[k]? = some v->h b (o+k)=some v)->i<l.length->RV h Lf fl (.pointer (some ⟨b,o+(i*esz+off),none⟩)) (.pin esz l i off)
 | agg {fl} (vs:List Value) (l:LA):RL h Lf fl vs l->RV h Lf fl (.agg vs.toArray) (.agg l)
 | tup {fl} (vs:List Value) (l:LA):RL h Lf fl vs l->RV h Lf fl (.tuple vs.toArray) (.tup l)
 | fn {fl} (f:Fn) (vs:List Value) (l:LA):RL h Lf fl vs l->RV h Lf fl (.func f #[] vs.toArray) (.fn f l)
inductive RL (h:Mem)(Lf:Value->AV->Prop):Bool->List Value->LA->Prop
 | nil {fl}:RL h Lf fl [] []
 | cons {fl v a vs l}:RV h Lf fl v a->RL h Lf fl vs l->RL h Lf fl (v::vs) (a::l)
end
section
variable {h h':Mem}{Lf Lf':Value->AV->Prop}
theorem RV.mono(hh:∀ b o v,h b o=some v->h' b o=some v)(hl:∀ v a,Lf v a->Lf' v a) {fl v a}(r:RV h Lf fl v a):RV h' Lf' fl v a:=by
 induction r using RV.rec (motive_2:=fun fl vs l _=>RL h' Lf' fl vs l)with
 | leaf p=>exact .leaf (hl _ _ p)
 | int k n=>exact .int k n
 | bool b=>exact .bool b
 | str s=>exact .str s
 | raw v=>exact .raw v
 | any v=>exact .any v
 | fznil e=>exact .fznil e
 | fz b o c esz l vs _ h1 h2 h3 ih=>exact .fz b o c esz l vs ih h1 (fun k v hk=>hh _ _ _ (h2 k v hk)) h3
 | pin b o esz l vs i off _ h1 h2 h3 ih=>exact .pin b o esz l vs i off ih h1 (fun k v hk=>hh _ _ _ (h2 k v hk)) h3
 | agg vs l _ ih=>exact .agg vs l ih
 | tup vs l _ ih=>exact .tup vs l ih
 | fn f vs l _ ih=>exact .fn f vs l ih
 | nil=>exact .nil
 | cons _ _ ih1 ih2=>exact .cons ih1 ih2
theorem RL.mono(hh:∀ b o v,h b o=some v->h' b o=some v)(hl:∀ v a,Lf v a->Lf' v a) {fl vs l}(r:RL h Lf fl vs l):RL h' Lf' fl vs l:=by
 induction l generalizing vs with
 | nil=>cases r; exact .nil
 | cons a l ih=>cases r with|cons h1 h2=>exact .cons (h1.mono hh hl) (ih h2)
theorem RV.thaw(hh:∀ b o v,h b o=some v->h' b o=some v) {fl v a}(r:RV h Lf true v a):RV h' Lf' fl v a:=by
 suffices H:∀ {f v a} (_:RV h Lf f v a),f=true->∀ fl,RV h' Lf' fl v a from H r rfl fl
 intro f v a r
 induction r using RV.rec (motive_2:=fun f vs l _=>f=true->∀ fl,RL h' Lf' fl vs l)with
 | leaf p=>grind
 | int k n=>intro _ fl; exact .int k n
 | bool b=>intro _ fl; exact .bool b
 | str s=>intro _ fl; exact .str s
 | raw v=>intro _ fl; exact .raw v
 | any v=>intro _ fl; exact .any v
 | fznil e=>intro _ fl; exact .fznil e
 | fz b o c esz l vs _ h1 h2 h3 ih=>intro _ fl; exact .fz b o c esz l vs (ih rfl true) h1 (fun k v hk=>hh _ _ _ (h2 k v hk)) h3
 | pin b o esz l vs i off _ h1 h2 h3 ih=>intro _ fl; exact .pin b o esz l vs i off (ih rfl true) h1 (fun k v hk=>hh _ _ _ (h2 k v hk)) h3
 | agg vs l _ ih=>intro e fl; exact .agg vs l (ih e fl)
 | tup vs l _ ih=>intro e fl; exact .tup vs l (ih e fl)
 | fn f vs l _ ih=>intro e fl; exact .fn f vs l (ih e fl)
 | nil=>exact .nil
 | cons _ _ ih1 ih2=>exact .cons (ih1 (by omega) _) (ih2 (by omega) _)
theorem RL.thaw(hh:∀ b o v,h b o=some v->h' b o=some v) {fl vs l}(r:RL h Lf true vs l):RL h' Lf' fl vs l:=by
 induction l generalizing vs with
 | nil=>cases r; exact .nil
 | cons a l ih=>cases r with|cons h1 h2=>exact .cons (h1.thaw hh) (ih h2)
theorem RL.length{fl vs l}(r:RL h Lf fl vs l):vs.length=l.length:=by
 induction l generalizing vs with
 | nil=>cases r; rfl
 | cons a l ih=>cases r<;>grind
theorem RL.get{fl vs l}(r:RL h Lf fl vs l){k:Nat}{a:AV}(hk:l[k]? = some a):∃ v,vs[k]? = some v/\RV h Lf fl v a:=by
 induction l generalizing vs k with
 | nil=>grind
 | cons b l ih =>
  cases r<;>grind
theorem RL.getD{fl vs l}(r:RL h Lf fl vs l)(k:Nat)(v0:Value):RV h Lf fl (vs.getD k v0) (l.getD k .any):=by
 cases hk:l[k]? with
 | none=>simp[List.getD,hk]; exact .any _
 | some a =>
  obtain⟨v,h1,h2⟩:=r.get hk
  grind
theorem RL.append{fl vs l vs' l'}(r:RL h Lf fl vs l)(r':RL h Lf fl vs' l'):RL h Lf fl (vs++vs') (l++l'):=by
 induction l generalizing vs with
 | nil=>cases r<;>grind
 | cons a l ih=>cases r with|cons h1 h2=>exact .cons h1 (ih h2)
theorem RL.take{fl vs l}(r:RL h Lf fl vs l)(n:Nat):RL h Lf fl (vs.take n) (l.take n):=by
 induction l generalizing vs n with
 | nil=>cases r; simp; exact .nil
 | cons a l ih =>
  cases r with
  | cons h1 h2 =>
   cases n with
   | zero=>exact .nil
   | succ n=>exact .cons h1 (ih h2 n)
theorem RL.drop{fl vs l}(r:RL h Lf fl vs l)(n:Nat):RL h Lf fl (vs.drop n) (l.drop n):=by
 induction l generalizing vs n with
 | nil=>cases r; simp; exact .nil
 | cons a l ih =>
  cases r with
  | cons h1 h2 =>
   cases n with
   | zero=>exact .cons h1 h2
   | succ n=>grind
theorem RL.set{fl vs l}(r:RL h Lf fl vs l)(k:Nat){v:Value}{a:AV}(rv:RV h Lf fl v a):RL h Lf fl (vs.set k v) (l.set k a):=by
 induction l generalizing vs k with
 | nil=>cases r; exact .nil
 | cons b l ih =>
  cases r with
  | cons h1 h2 =>
   cases k with
   | zero=>exact .cons rv h2
   | succ k=>exact .cons h1 (ih h2 k)
theorem RL.of_get{fl:Bool}:∀ {vs:List Value}{l:LA},vs.length=l.length->(∀ (k:Nat)(v:Value)(a:AV),vs[k]? = some v->l[k]? = some a->RV h Lf fl v a)->RL h Lf fl vs l
 | [],[],_,_=>.nil
 | [],_::_,e,_=>by grind
 | _::_,[],e,_=>by grind
 | v::vs,a::l,e,H=>.cons (H 0 v a rfl rfl) (RL.of_get (by grind) fun k v a h1 h2=>H (k+1) v a (by grind) (by grind))
end
theorem flat_append(l m:LA):flat (l++m)=flat l++flat m:=by
 induction l<;>grind[flat]
theorem AaN{l:LA}{esz:Nat}(h:∀ x∈l,(cellsOf x).length=esz):(flat l).length=l.length*esz:=by
 induction l<;>grind[flat]
theorem AaP{esz:Nat}:∀ {l:LA}(_:∀ x∈l,(cellsOf x).length=esz)(i:Nat),(flat l).drop (i*esz)=flat (l.drop i)
 | [],_,i=>by simp[flat]
 | x::l,h,0=>by simp
 | x::l,h,i+1=>by
  have hx:=h x (by simp);rw[Nat.succ_mul,Nat.add_comm,<- List.drop_drop];simp only[flat,List.drop_succ_cons]
  simp[<- hx]
  rw[hx];exact AaP (fun y hy=>h y (by simp[hy])) i
theorem AbD{esz:Nat}:∀ {l:LA}(_:∀ x∈l,(cellsOf x).length=esz)(i:Nat),(flat l).take (i*esz)=flat (l.take i)
 | [],_,i=>by simp[flat]
 | x::l,h,0=>by simp[flat]
 | x::l,h,i+1=>by
  have hx:=h x (by simp);rw[Nat.succ_mul,Nat.add_comm];simp only[flat,List.take_succ_cons];rw[<- hx,List.take_length_add_append,hx,AbD (fun y hy=>h y (by simp[hy])) i]
theorem AyR{l:LA}{esz:Nat}(h:∀ x∈l,(cellsOf x).length=esz){i j:Nat}{x:AV}(hi:l[i]? = some x)(hj:j<esz):(flat l)[i*esz+j]? = (cellsOf x)[j]?:=by
 have h1:=AaP h i;have:l.drop i=x::l.drop (i+1):=by
  grind[lbs]
 rw[this]at h1;simp only[flat]at h1;have hx:=h x (laj hi);rw[<- List.getElem?_drop,h1,lao (by omega)]
end Go.Av
namespace Go.Av
open RowKit
inductive Blk where
 | arr (esz:Nat) (l:LA)
 | mp (es:List (AV×AV))
 | it (mid n:Nat) (seen:List Nat)
 | dead
abbrev LB:=List Blk
abbrev Own:=Nat->Option (Nat×Nat)
def upd(ρ:Own)(id:Nat)(x:Option (Nat×Nat)):Own:=fun i=>if i=id then x else ρ i
def at0(a:Option (Nat×Nat)):Option Addr:=a.map fun x=>⟨x.1,x.2,none⟩
def LfC(ρ:Own)(sto:LB)(v:Value)(a:AV):Prop :=
 match a with
 | .sl id off len cap=>match sto[id]? with
  | some (.arr e l)=>off+cap<=l.length/\(off+cap=l.length->(len=0/\cap=0/\∃ a,v=.slice (at0 a) 0 0) \/
    ∃ g tot,ρ id=some (g,tot)/\v=.slice (some ⟨g,off*e,none⟩) len (tot-off)/\len<=cap)
  | some _=>True
  | none=>False
 | .ptr id n i off=>match sto[id]? with
  | some (.arr e l)=>n<=l.length/\(n=l.length->i<n/\∃ g tot,ρ id=some (g,tot)/\v=.pointer (some ⟨g,i*e+off,none⟩))
  | some _=>True
  | none=>False
 | .mp id=>match sto[id]? with
  | some (.mp _)=>∃ g,ρ id=some (g,0)/\v=.map (some g)
  | some (.it _ _ _)=>∃ g,ρ id=some (g,0)/\v=.pointer (some ⟨g,0,none⟩)
  | some _=>True
  | none=>False
 | _=>False
def Lf(ρ:Own)(sto:LB)(v:Value)(a:AV):Prop:=v.oneCell'=true/\LfC ρ sto v a
def HRow(w:World)(g:Nat)(cur:Array Value)(t:TypeId):Prop:=∃ mk,w.heap[g]? = some (.cells cur t mk)/\(mk=(0,0)\/cur.size<=mk.1)
theorem HRow.of{w:World}{g:Nat}{cur:Array Value}{t:TypeId}(e:w.heap[g]? = some (.cells cur t (0,0))):HRow w g cur t:=⟨_,e,.inl rfl⟩
theorem HRow.via{w w':World}{g:Nat}{cur:Array Value}{t:TypeId}(e:w'.heap[g]? = w.heap[g]?)(r:HRow w g cur t):HRow w' g cur t:=by
 obtain⟨mk,h1,h2⟩:=r;exact⟨mk,e.trans h1,h2⟩
theorem HRow.lt{w:World}{g:Nat}{cur:Array Value}{t:TypeId}(r:HRow w g cur t):g<w.heap.size:=by
 obtain⟨mk,h1,_⟩:=r
 grind
theorem HRow.cell{w:World}{g:Nat}{cur:Array Value}{t:TypeId}(r:HRow w g cur t)(o:Nat):w.cell? ⟨g,o,none⟩=cur[o]?:=by
 obtain⟨mk,h1,_⟩:=r
 grind[cell_of_row]
theorem HRow.fz{w:World}{g:Nat}{cur:Array Value}{t:TypeId}(r:HRow w g cur t){o:Nat}(ho:o<cur.size):w.frozen? ⟨g,o,none⟩=false:=by
 obtain⟨⟨lo,hi⟩,h1,h2⟩:=r
 grind[World.frozen?]
theorem HRow.set{w:World}{g:Nat}{cur:Array Value}{t:TypeId}(r:HRow w g cur t){cs:Array Value}(hs:cs.size=cur.size):HRow (w.setRow g cs) g cs t:=by
 obtain⟨mk,h1,h2⟩:=r;exact⟨mk,setRow_heap w g cur cs t mk h1,by grind⟩
theorem AaT(P:Program)(g o:Nat)(t:TypeId):∀ (vs:List Value)(i:Nat)(cur:Array Value)(w:World),HRow w g cur t->o+i+vs.length<=cur.size->(∀ v∈vs,v.oneCell'=true) ->
  (storeCells ⟨g,o,none⟩ vs i).run P w=.ok () (w.setRow g (cur.toList.take (o+i)++vs++cur.toList.drop (o+i+vs.length)).toArray)
 | [],i,cur,w,hg,_,_=>by
  obtain⟨mk,h1,_⟩:=hg
  simp
  rw[setRow_self w g cur t mk h1];rfl
 | v::rest,i,cur,w,hg,hl,h1=>by
  have hi:o+i<cur.size:=by grind
  have hadd:(⟨g,o,none⟩:Addr).add i=⟨g,o+i,none⟩:=by grind[Addr.add]
  have hcell:w.cell? ⟨g,o+i,none⟩=some cur[o+i]:=by rw[hg.cell]; simp[hi]
  have hfro:w.frozen? ⟨g,o+i,none⟩=false:=hg.fz hi;obtain⟨mk,g1,g2⟩:=hg;have hst:(store ((⟨g,o,none⟩:Addr).add i) v).run P w=.ok () (w.setRow g (cur.setIfInBounds (o+i) v)):=by
   rw[hadd,run_store P w _ v _ (h1 v (by simp)),hcell]
   simp[hfro,setCell_eq_setRow w g (o+i) cur t mk v g1]
  have ih:=AaT P g o t rest (i+1) (cur.setIfInBounds (o+i) v) (w.setRow g (cur.setIfInBounds (o+i) v)) (HRow.set ⟨mk,g1,g2⟩ (by simp)) (by simp at hl |-; omega) (fun x hx=>h1 x (by simp[hx]));simp only[storeCells,Sem.run_bind,hst,Result.andThen_ok,ih,setRow_setRow]
  congr 3
  have e:=list_seg_step cur.toList (o+i) v rest (by omega)
  simpa[Array.toList_setIfInBounds,Nat.add_assoc]using e
def tomb:AV×AV:=(.fz 0 [.any],.any)
def liveK:AV->Bool
 | .fz _ _=>false
 | _=>true
def lvs:List (AV×AV)->List (AV×AV)
 | []=>[]
 | x::r=>bif liveK x.1 then x::lvs r else lvs r
def ixs:Nat->List (AV×AV)->List Nat
 | _,[]=>[]
 | i,x::r=>bif liveK x.1 then i::ixs (i+1) r else ixs (i+1) r
theorem lvs_map(f:AV->AV):∀ es:List (AV×AV),lvs (es.map fun x=>(x.1,f x.2))=(lvs es).map fun x=>(x.1,f x.2)
 | []=>rfl
 | x::r=>by
  simp only[lak,lvs]
  cases h:liveK x.1 <;> simp[lvs_map f r]
theorem AuT(f:AV->AV):∀ (es:List (AV×AV))(i:Nat),ixs i (es.map fun x=>(x.1,f x.2))=ixs i es
 | [],_=>rfl
 | x::r,i=>by
  simp_all[ixs,AuT]
theorem ApM{x:AV×AV}:∀ {es:List (AV×AV)},x∈lvs es->x∈es
 | [],h=>by grind[lvs]
 | y::r,h=>by
  simp only[lvs]at h
  cases hl:liveK y.1 with
  | false=>rw[hl]at h; exact List.mem_cons_of_mem _ (ApM h)
  | true =>
   rw[hl]at h
   rcases List.mem_cons.1 h with rfl|h
   .exact List.mem_cons_self
   .exact List.mem_cons_of_mem _ (ApM h)
theorem AlC:∀ (es:List (AV×AV))(i:Nat),(ixs i es).length=(lvs es).length
 | [],_=>rfl
 | x::r,i=>by
  simp only[ixs,lvs]
  cases h:liveK x.1 <;> simp[AlC r]
theorem ApN:∀ (a b:List (AV×AV)),lvs (a++b)=lvs a++lvs b
 | [],_=>rfl
 | x::r,b=>by
  simp only[lah,lvs]
  cases h:liveK x.1 <;> simp[ApN r]
theorem ixs_app:∀ (a b:List (AV×AV))(i:Nat),ixs i (a++b)=ixs i a++ixs (i+a.length) b
 | [],_,_=>rfl
 | x::r,b,i=>by
  simp only[lah,ixs,ixs_app r b,lan];rw[show i+1+r.length=i+(r.length+1) by omega]
  cases h:liveK x.1 <;> simp
theorem ArL:∀ {es:List (AV×AV)}{i p j:Nat},(ixs i es)[p]? = some j->i<=j/\∃ x,es[j-i]? = some x/\(lvs es)[p]? = some x/\liveK x.1=true
 | [],i,p,j,h=>by grind[ixs]
 | x::r,i,p,j,h=>by
  simp only[ixs,lvs]at h |-
  cases hl:liveK x.1 with
  | false =>
   rw[hl]at h;obtain⟨h1,y,h2,h3,h4⟩:=ArL h
   grind
  | true =>
   rw[hl]at h
   simp at h |-
   cases p with
   | zero =>
    grind
   | succ p =>
    obtain⟨h1,y,h2,h3,h4⟩:=ArL h
    grind
theorem AuU:∀ {es:List (AV×AV)}{i j:Nat}{x:AV×AV},es[j]? = some x->liveK x.1=true->∃ p:Nat,(ixs i es)[p]? = some (i+j)/\(lvs es)[p]? = some x
 | [],_,j,x,h,_=>by grind
 | y::r,i,0,x,h,hl=>by
  simp at h
  exact⟨0,by grind[ixs],by grind[lvs]⟩
 | y::r,i,j+1,x,h,hl=>by
  simp at h
  obtain⟨p,h1,h2⟩:=AuU (i:=i+1) h hl;simp only[ixs,lvs]
  cases hy:liveK y.1 with
  | false=>grind
  | true=>exact⟨p+1,by grind,by grind⟩
theorem AhS:∀ (es:List (AV×AV))(i:Nat),(ixs i es).Pairwise (·<·)/\∀ j∈ixs i es,i<=j
 | [],_=>⟨.nil,by simp[ixs]⟩
 | x::r,i=>by
  obtain⟨h1,h2⟩:=AhS r (i+1);simp only[ixs]
  cases hl:liveK x.1 with
  | false=>exact⟨h1,fun j hj=>by have:=h2 j hj; omega⟩
  | true =>
   refine⟨List.pairwise_cons.2 ⟨fun j hj=>by have:=h2 j hj; omega,h1⟩,fun j hj=>?_⟩
   rcases List.mem_cons.1 hj with rfl|hj
   .exact lal _
   .have:=h2 j hj; omega
theorem A6K{es:List (AV×AV)}{p q j:Nat}(h:(ixs 0 es)[p]? = some j)(h2:(ixs 0 es)[q]? = some j):p=q:=by
 grind[List.pairwise_iff_getElem,AhS]
theorem AhT{x:AV×AV}(hx:liveK x.1=true):∀ {es:List (AV×AV)}{i p j:Nat},(ixs i es)[p]? = some (i+j)->lvs (es.set j x)=(lvs es).set p x/\∀ n,ixs n (es.set j x)=ixs n es
 | [],_,_,_,h=>by grind[ixs]
 | y::r,i,p,0,h=>by
  obtain⟨_,z,h2,h3,h4⟩:=ArL h
  simp at h2
  subst h2;simp only[ixs,h4,lai]at h
  cases p with
  | zero=>grind[lvs,ixs]
  | succ p =>
   have:=(AhS r (i+1)).2 _ (laj h);omega
 | y::r,i,p,j+1,h=>by
  cases hy:liveK y.1 with
  | false =>
   simp only[ixs,hy,lap]at h;obtain⟨h1,h2⟩:=AhT hx (j:=j) (by rw[h]; congr 1; omega);exact⟨by simp[lvs,hy,h1],fun n=>by simp[ixs,hy,h2]⟩
  | true =>
   simp only[ixs,hy,lai]at h
   cases p with
   | zero=>simp at h
   | succ p =>
    simp at h
    obtain⟨h1,h2⟩:=AhT hx (j:=j) (by rw[h]; congr 1; omega);exact⟨by simp[lvs,hy,h1],fun n=>by simp[ixs,hy,h2]⟩
theorem ApO:∀ {es:List (AV×AV)}{i p j:Nat},(ixs i es)[p]? = some (i+j)->lvs (es.set j tomb)=(lvs es).eraseIdx p/\∀ n,ixs n (es.set j tomb)=(ixs n es).eraseIdx p
 | [],_,_,_,h=>by grind[ixs]
 | y::r,i,p,0,h=>by
  obtain⟨_,z,h2,h3,h4⟩:=ArL h
  simp at h2
  subst h2;simp only[ixs,h4,lai]at h
  cases p with
  | zero =>
   grind[liveK,tomb,lvs,ixs]
  | succ p =>
   have:=(AhS r (i+1)).2 _ (laj h);omega
 | y::r,i,p,j+1,h=>by
  cases hy:liveK y.1 with
  | false =>
   simp only[ixs,hy,lap]at h;obtain⟨h1,h2⟩:=ApO (j:=j) (by rw[h]; congr 1; omega);exact⟨by simp[lvs,hy,h1],fun n=>by simp[ixs,hy,h2]⟩
  | true =>
   simp only[ixs,hy,lai]at h
   cases p with
   | zero=>simp at h
   | succ p =>
    simp at h
    obtain⟨h1,h2⟩:=ApO (j:=j) (by rw[h]; congr 1; omega);exact⟨by simp[lvs,hy,h1],fun n=>by simp[ixs,hy,h2]⟩
theorem AdY:∀ {es:List (AV×AV)}{x:AV×AV},x∈lvs es->liveK x.1=true
 | [],x,h=>by grind[lvs]
 | y::r,x,h=>by
  simp only[lvs]at h
  cases hl:liveK y.1 with
  | false=>rw[hl]at h; exact AdY h
  | true =>
   rw[hl]at h
   rcases List.mem_cons.1 h with rfl|h
   .exact hl
   .exact AdY h
def EnOk(en:Array MapEntry)(clock:Nat)(es:List (AV×AV)):Prop:=clock=es.length/\(∀ (j:Nat)(y:MapEntry),en.toList[j]? = some y->(ixs 0 es)[j]? = some y.born)/\en.toList.Pairwise (fun x y=>x.key≠y.key)
theorem EnOk.map{en:Array MapEntry}{clock:Nat}{es:List (AV×AV)}(f:AV->AV)(h:EnOk en clock es):EnOk en clock (es.map fun x=>(x.1,f x.2)):=by
 simp_all[EnOk,AuT]
def OwnB(h:Mem)(ρ:Own)(sto:LB)(w:World)(id:Nat):Blk->Prop
 | .arr e l=>(l=[]/\ρ id=none)\/∃ g tot cur t,ρ id=some (g,tot)/\HRow w g cur t/\cur.size=tot*e/\l.length<=tot/\tot<=maxLen/\0<e /\
   (∀ x∈l,(cellsOf x).length=e)/\(∀ v∈cur.toList,v.oneCell'=true)/\RL h (Lf ρ sto) false (cur.toList.take (l.length*e)) (flat l)
 | .mp es=>∃ g en clock,ρ id=some (g,0)/\w.heap[g]? = some (.map en clock) /\
   en.toList.length=(lvs es).length/\(∀ (k:Nat) (x:AV×AV) (y:MapEntry),(lvs es)[k]? = some x->en.toList[k]? = some y->RV h (Lf ρ sto) true y.key x.1/\RV h (Lf ρ sto) false y.val x.2)/\EnOk en clock es
 | .it mid n seen=>∃ g gm,ρ id=some (g,0)/\w.heap[g]? = some (.mapIter (some gm) n seen.toArray n)/\Lf ρ sto (.map (some gm)) (.mp mid)/\seen.Nodup/\∀ j∈seen,j<n
 | .dead=>ρ id=none
class Tr where
 R:World->World->Prop
 trans:∀ {a b c:World},R a b->R b c->R a c
 same:∀ {w w':World},w'.drawn=w.drawn->R w w'
 drew:∀ w:World,R w w.drew
variable [Tr]
structure Mine(h:Mem)(ρ:Own)(sto:LB)(w:World):Prop where
 mem:∀ b o v,h b o=some v->w.cell? ⟨b,o,none⟩=some v/\v.oneCell'=true
 own:∀ (id:Nat) (blk:Blk),sto[id]? = some blk->OwnB h ρ sto w id blk
 out:∀ id,sto.length<=id->ρ id=none
 inj:∀ i j g t t',ρ i=some (g,t)->ρ j=some (g,t')->i=j
 disj:∀ i g t,ρ i=some (g,t)->∀ o,h g o=none
structure Later(h:Mem)(ρ:Own)(sto:LB)(w:World)(h':Mem)(ρ':Own)(sto':LB)(w':World):Prop where
 hle:∀ b o v,h b o=some v->h' b o=some v
 hnew:∀ b o,h b o=none->h' b o≠none->(∃ j t,ρ j=some (b,t))\/w.heap.size<=b
 keep:∀ v a,Lf ρ sto v a->Lf ρ' sto' v a
 os:w'.os=w.os
 tape:w'.tape=w.tape
 output:w'.output=w.output/\Tr.R w w'
 size:w.heap.size<=w'.heap.size
 block:∀ k,k<w.heap.size->(∀ i t,ρ i≠some (k,t))->w'.heap[k]? = w.heap[k]?
 newown:∀ i g t,ρ' i=some (g,t)->(∃ j t',ρ j=some (g,t'))\/w.heap.size<=g
theorem Later.refl(h:Mem)(ρ:Own)(sto:LB)(w:World):Later h ρ sto w h ρ sto w :=
 ⟨fun _ _ _ x=>x,fun _ _ a b=>(b a).elim,fun _ _ x=>x,rfl,rfl,⟨rfl,Tr.same rfl⟩,lal _,fun _ _ _=>rfl,fun i _ t x=>.inl ⟨i,t,x⟩⟩
theorem Later.trans{h ρ sto w h1 ρ1 sto1 w1 h2 ρ2 sto2 w2}(a:Later h ρ sto w h1 ρ1 sto1 w1)(b:Later h1 ρ1 sto1 w1 h2 ρ2 sto2 w2):Later h ρ sto w h2 ρ2 sto2 w2 where
 hle:=fun x y z e=>b.hle x y z (a.hle x y z e)
 hnew:=fun x y e n=>by
  cases hq:h1 x y with
  | some v=>exact a.hnew x y e (by grind)
  | none =>
   rcases b.hnew x y hq n with⟨j,t,hj⟩|hs
   .exact a.newown j x t hj
   .exact .inr (Nat.le_trans a.size hs)
 keep:=fun v x l=>b.keep v x (a.keep v x l)
 os:=b.os.trans a.os
 tape:=b.tape.trans a.tape
 output:=⟨b.output.1.trans a.output.1,Tr.trans a.output.2 b.output.2⟩
 size:=Nat.le_trans a.size b.size
 block:=fun k hk hn=>by
  rw[b.block k (Nat.lt_of_lt_of_le hk a.size) ?_,a.block k hk hn];intro i t e
  rcases a.newown i k t e with⟨j,t',hj⟩|hs<;>grind
 newown:=fun i g t e=>by
  rcases b.newown i g t e with⟨j,t',hj⟩|hs
  .exact a.newown j g t' hj
  .exact .inr (Nat.le_trans a.size hs)
section
variable {h h':Mem}{ρ ρ':Own}{sto sto':LB}{w w':World}
theorem Mine.lt(m:Mine h ρ sto w) {i g t}(e:ρ i=some (g,t)):g<w.heap.size:=by
 have hi:i<sto.length:=by
  rcases lau i sto.length with x|x
  .exact x
  .simp [m.out i x]at e
 have ho:=m.own i _ (las hi)
 cases hb:sto[i]with
 | arr es l =>
  rw[hb]at ho
  rcases ho with⟨_,hn⟩|⟨g',tot,cur,tt,h1,h2,_⟩
  .grind
  .rw [h1]at e; cases e
   exact h2.lt
 | mp es =>
  rw[hb]at ho;obtain⟨g',en,cl,h1,h2,_⟩:=ho
  grind
 | it mid n seen =>
  rw[hb]at ho;obtain⟨g',gm,h1,h2,_⟩:=ho
  grind
 | dead=>grind[OwnB]
theorem Mine.memlt(m:Mine h ρ sto w) {b o v}(e:h b o=some v):b<w.heap.size:=by
 have:=World.block_lt_of_cell? w ⟨b,o,none⟩ (m.mem b o v e).1;omega
theorem OwnB.mono(hh:∀ b o v,h b o=some v->h' b o=some v)(hl:∀ v a,Lf ρ sto v a->Lf ρ' sto' v a){id:Nat}{blk:Blk}(e:ρ' id=ρ id)
  (hw:∀ g t,ρ id=some (g,t)->w'.heap[g]? = w.heap[g]?) (o:OwnB h ρ sto w id blk):OwnB h' ρ' sto' w' id blk:=by
 cases blk with
 | arr es l =>
  rcases o with⟨h1,h2⟩|⟨g,tot,cur,t,h1,h2,h3,h4,h5,h6,h7,h8,h9⟩
  .exact .inl ⟨h1,e.trans h2⟩
  .exact .inr ⟨g,tot,cur,t,e.trans h1,h2.via (hw g tot h1),h3,h4,h5,h6,h7,h8,h9.mono hh hl⟩
 | mp es =>
  obtain⟨g,en,cl,h1,h2,h3,h4,h5⟩:=o;refine⟨g,en,cl,e.trans h1,(hw g 0 h1).trans h2,h3,fun k x y hx hy=>?_,h5⟩;obtain⟨p,q⟩:=h4 k x y hx hy;exact⟨p.mono hh hl,q.mono hh hl⟩
 | it mid n seen =>
  obtain⟨g,gm,h1,h2,h3,h4⟩:=o;exact⟨g,gm,e.trans h1,(hw g 0 h1).trans h2,hl _ _ h3,h4⟩
 | dead=>exact e.trans o
structure Same(w w':World):Prop where
 os:w'.os=w.os
 tape:w'.tape=w.tape
 output:w'.output=w.output/\Tr.R w w'
 size:w.heap.size<=w'.heap.size
 block:∀ k,k<w.heap.size->w'.heap[k]? = w.heap[k]?
theorem Same.refl(w:World):Same w w:=⟨rfl,rfl,⟨rfl,Tr.same rfl⟩,lal _,fun _ _=>rfl⟩
theorem Same.alloc(w:World)(o:Obj):Same w (w.alloc o):=⟨rfl,rfl,⟨rfl,Tr.same rfl⟩,by simp,fun k hk=>Below.heap_alloc w o k hk⟩
theorem Same.drew(w:World):Same w w.drew:=⟨rfl,rfl,⟨rfl,Tr.drew w⟩,lal _,fun _ _=>rfl⟩
theorem Same.trans{w1 w2 w3:World}(a:Same w1 w2)(b:Same w2 w3):Same w1 w3 :=
 ⟨b.os.trans a.os,b.tape.trans a.tape,⟨b.output.1.trans a.output.1,Tr.trans a.output.2 b.output.2⟩,Nat.le_trans a.size b.size,fun k hk=>(b.block k (Nat.lt_of_lt_of_le hk a.size)).trans (a.block k hk)⟩
theorem Same.cell{w w':World}(s:Same w w'){b o:Nat}{v:Value}(e:w.cell? ⟨b,o,none⟩=some v):w'.cell? ⟨b,o,none⟩=some v:=by
 have:=World.block_lt_of_cell? w ⟨b,o,none⟩ e;exact(World.cell?_of_block (s.block b this)).trans e
theorem Mine.same(m:Mine h ρ sto w)(s:Same w w'):Mine h ρ sto w' where
 mem:=fun b o v e=>⟨s.cell (m.mem b o v e).1,(m.mem b o v e).2⟩
 own:=fun id blk e=>(m.own id blk e).mono (fun _ _ _ x=>x) (fun _ _ x=>x) rfl (fun g t hg=>s.block g (m.lt hg))
 out:=m.out
 inj:=m.inj
 disj:=m.disj
theorem Later.same(s:Same w w'):Later h ρ sto w h ρ sto w' :=
 ⟨fun _ _ _ x=>x,fun _ _ a b=>(b a).elim,fun _ _ x=>x,s.os,s.tape,s.output,s.size,fun k hk _=>s.block k hk,fun i _ t x=>.inl ⟨i,t,x⟩⟩
def Mem.add(h:Mem)(b:Nat)(cs:List Value):Mem:=fun b' o=>if b'=b then cs[o]? else h b' o
theorem Mine.freezeNew(m:Mine h ρ sto w)(cs:List Value)(t:TypeId)(h1:∀ v∈cs,v.oneCell'=true) :
  Mine (Mem.add h w.heap.size cs) ρ sto (w.alloc (.cells cs.toArray t))/\Later h ρ sto w (Mem.add h w.heap.size cs) ρ sto (w.alloc (.cells cs.toArray t)):=by
 have hle:∀ b o v,h b o=some v->Mem.add h w.heap.size cs b o=some v:=by
  intro b o v e;have:=m.memlt e
  grind[Mem.add]
 have s:=Same.alloc w (.cells cs.toArray t);refine⟨⟨?_,?_,m.out,m.inj,?_⟩,⟨hle,?_,fun _ _ x=>x,rfl,rfl,⟨rfl,Tr.same rfl⟩,s.size,fun k hk _=>s.block k hk,fun i _ t x=>.inl ⟨i,t,x⟩⟩⟩
 .intro b o v e
  by_cases hb:b=w.heap.size
  .grind[Mem.add,World.cell?_alloc_new]
  .simp only [Mem.add,hb,if_false]at e
   exact⟨s.cell (m.mem b o v e).1,(m.mem b o v e).2⟩
 .exact fun id blk e=>(m.own id blk e).mono hle (fun _ _ x=>x) rfl (fun g t hg=>s.block g (m.lt hg))
 .intro i g t e o
  have:=m.lt e
  simp[Mem.add,Nat.ne_of_lt this,m.disj i g t e o]
 grind[Mem.add]
theorem AyS{b:Blk}{x:Option (Nat×Nat)}{v:Value}{a:AV}(l:LfC ρ sto v a):LfC (upd ρ sto.length x) (sto++[b]) v a:=by
 have key:∀ id,id<sto.length->(sto++[b])[id]? = sto[id]? /\ upd ρ sto.length x id=ρ id:=by
  grind[upd]
 cases a <;> simp only[LfC]at l |-
 all_goals grind
theorem AeT{b:Blk}{x:Option (Nat×Nat)}{v:Value}{a:AV}(l:Lf ρ sto v a):Lf (upd ρ sto.length x) (sto++[b]) v a:=⟨l.1,AyS l.2⟩
theorem Mine.push(m:Mine h ρ sto w)(o:Obj)(b:Blk)(x:Option Nat)
  (hb:OwnB h (upd ρ sto.length (x.map fun t=>(w.heap.size,t))) (sto++[b]) (w.alloc o) sto.length b) :
  Mine h (upd ρ sto.length (x.map fun t=>(w.heap.size,t))) (sto++[b]) (w.alloc o)/\Later h ρ sto w h (upd ρ sto.length (x.map fun t=>(w.heap.size,t))) (sto++[b]) (w.alloc o):=by
 have s:=Same.alloc w o;have hk:∀ v a,Lf ρ sto v a->Lf (upd ρ sto.length (x.map fun t=>(w.heap.size,t))) (sto++[b]) v a:=fun _ _=>AeT
 have hnone:∀ i,upd ρ sto.length (x.map fun t=>(w.heap.size,t)) i=if i=sto.length then x.map (fun t=>(w.heap.size,t)) else ρ i:=fun _=>rfl
 have hown:∀ i g t,upd ρ sto.length (x.map fun t=>(w.heap.size,t)) i=some (g,t)->(i=sto.length/\g=w.heap.size)\/(i≠sto.length/\ρ i=some (g,t)):=by
  intro i g t e;rw[hnone]at e
  split at e<;>simp_all
 refine⟨⟨fun b o v e=>⟨s.cell (m.mem b o v e).1,(m.mem b o v e).2⟩,?_,?_,?_,?_⟩,⟨fun _ _ _ x=>x,fun _ _ a b=>(b a).elim,hk,rfl,rfl,⟨rfl,Tr.same rfl⟩,s.size,fun k hk _=>s.block k hk,?_⟩⟩
 .intro id blk e
  by_cases hid:id<sto.length
  .rw [lao hid]at e
   exact(m.own id blk e).mono (fun _ _ _ x=>x) hk (by grind) (fun g t hg=>s.block g (m.lt hg))
  grind
 .intro id hid
  simp at hid
  rw[hnone,if_neg (by omega)];exact m.out id (by omega)
 .intro i j g t t' hi hj
  rcases hown i g t hi with⟨h1,h2⟩|⟨h1,h2⟩ <;> rcases hown j g t' hj with⟨h3,h4⟩|⟨h3,h4⟩
  .omega
  .have:=m.lt h4; omega
  .have:=m.lt h2; omega
  .exact m.inj i j g t t' h2 h4
 .intro i g t e o
  rcases hown i g t e with⟨h1,h2⟩|⟨h1,h2⟩
  .cases hq:h g o with
   | none=>rfl
   | some v=>have:=m.memlt hq; omega
  .exact m.disj i g t h2 o
 grind
theorem AbL{id:Nat}{b b':Blk}(hb:sto[id]? = some b)(hρ:∀ i,i≠id->ρ' i=ρ i)
  (ok:match b,b' with
   | .arr e l,.arr e' l'=>(e'=e/\l'.length=l.length/\ρ' id=ρ id)\/l.length<l'.length
   | .mp _,.mp _=>ρ' id=ρ id
   | .it _ _ _,.it _ _ _=>ρ' id=ρ id
   | _,.dead=>True
   | _,_=>False) {v:Value} {a:AV} (l:LfC ρ sto v a):LfC ρ' (sto.set id b') v a:=by
 have this':(sto.set id b')[id]? = some b':=by grind
 cases a <;> simp only[LfC]at l |-
 case sl i off len cap =>
  by_cases hi:i=id
  .subst hi
   rw[this']; rw[hb]at l
   cases b <;> cases b' <;> simp only at ok l |-
   grind
  grind
 case ptr i n j off =>
  by_cases hi:i=id
  .subst hi
   rw[this']; rw[hb]at l
   cases b <;> cases b' <;> simp only at ok l |-
   grind
  grind
 case mp i =>
  by_cases hi:i=id
  .subst hi
   rw[this']; rw[hb]at l
   cases b <;> cases b' <;> simp only at ok l |-
   all_goals grind
  grind
theorem Mine.write(m:Mine h ρ sto w){id:Nat}{b b':Blk}(hb:sto[id]? = some b){g tot:Nat}(hg:ρ id=some (g,tot))
  (ok:match b,b' with
   | .arr e l,.arr e' l'=>(e'=e/\l'.length=l.length)\/l.length<l'.length
   | .mp _,.mp _=>True
   | .it _ _ _,.it _ _ _=>True
   | _,_=>False)
  (hos:w'.os=w.os) (htape:w'.tape=w.tape) (hout:w'.output=w.output/\Tr.R w w') (hsz:w'.heap.size=w.heap.size) (hblk:∀ k,k≠g->w'.heap[k]? = w.heap[k]?)
  (hn:OwnB h ρ (sto.set id b') w' id b'):Mine h ρ (sto.set id b') w'/\Later h ρ sto w h ρ (sto.set id b') w':=by
 have hk:∀ v a,Lf ρ sto v a->Lf ρ (sto.set id b') v a:=fun v a l=>⟨l.1,AbL hb (fun _ _=>rfl) (by
  cases b <;> cases b' <;> simp only at ok |-
  grind) l.2⟩
 refine⟨⟨?_,?_,?_,m.inj,m.disj⟩,⟨fun _ _ _ x=>x,fun _ _ a b=>(b a).elim,hk,hos,htape,hout,Nat.le_of_eq hsz.symm,?_,fun i _ t x=>.inl ⟨i,t,x⟩⟩⟩
 .intro b o v e
  refine⟨?_,(m.mem b o v e).2⟩;have hne:b≠g:=fun hq=>by subst hq; simp[m.disj id b tot hg o]at e
  exact(World.cell?_of_block (hblk b hne)).trans (m.mem b o v e).1
 .intro i blk e
  by_cases hi:i=id
  .grind
  .rw [lba (Ne.symm hi)]at e
   refine(m.own i blk e).mono (fun _ _ _ x=>x) hk rfl (fun g' t hg'=>hblk g' fun hq=>?_);subst hq;exact hi (m.inj i id g' t tot hg' hg)
 .intro i hi
  simp at hi
  exact m.out i hi
 grind
theorem Mine.move(m:Mine h ρ sto w){id:Nat}{e e':Nat}{l l':LA}(hb:sto[id]? = some (.arr e l))(hlen:l.length<l'.length)(tot:Nat)(s:Same w w')(hnew:w.heap.size<w'.heap.size)
  (hn:OwnB h (upd ρ id (some (w.heap.size,tot))) (sto.set id (.arr e' l')) w' id (.arr e' l')) :
  Mine h (upd ρ id (some (w.heap.size,tot))) (sto.set id (.arr e' l')) w'/\Later h ρ sto w h (upd ρ id (some (w.heap.size,tot))) (sto.set id (.arr e' l')) w':=by
 have hid:=(List.getElem?_eq_some_iff.1 hb).1;have hk:∀ v a,Lf ρ sto v a->Lf (upd ρ id (some (w.heap.size,tot))) (sto.set id (.arr e' l')) v a:=fun v a lf=>⟨lf.1,AbL hb (fun i hi=>by grind[upd]) (Or.inr hlen:(e'=e/\l'.length=l.length/\_)\/_) lf.2⟩
 have hown:∀ i g t,upd ρ id (some (w.heap.size,tot)) i=some (g,t)->(i=id/\g=w.heap.size)\/(i≠id/\ρ i=some (g,t)):=by
  grind[upd]
 refine⟨⟨fun b o v e=>⟨s.cell (m.mem b o v e).1,(m.mem b o v e).2⟩,?_,?_,?_,?_⟩,⟨fun _ _ _ x=>x,fun _ _ a b=>(b a).elim,hk,s.os,s.tape,s.output,s.size,fun k hk _=>s.block k hk,?_⟩⟩
 .intro i blk e
  by_cases hi:i=id
  .grind
  .rw [lba (Ne.symm hi)]at e
   exact(m.own i blk e).mono (fun _ _ _ x=>x) hk (by grind[upd]) (fun g' t hg'=>s.block g' (m.lt hg'))
 .intro i hi
  simp at hi
  have:i≠id:=by omega
  simp[upd,this,m.out i hi]
 .intro i j g t t' hi hj
  rcases hown i g t hi with⟨h1,h2⟩|⟨h1,h2⟩ <;> rcases hown j g t' hj with⟨h3,h4⟩|⟨h3,h4⟩
  .omega
  .have:=m.lt h4; omega
  .have:=m.lt h2; omega
  .exact m.inj i j g t t' h2 h4
 .intro i g t e o
  rcases hown i g t e with⟨h1,h2⟩|⟨h1,h2⟩
  .cases hq:h g o with
   | none=>rfl
   | some v=>have:=m.memlt hq; omega
  .exact m.disj i g t h2 o
 grind
end
instance trAny:Tr:=⟨fun _ _=>True,fun _ _=>trivial,fun _=>trivial,fun _=>trivial⟩
@[reducible] def trUp:Tr:=⟨fun w w'=>w.drawn<=w'.drawn,fun a b=>Nat.le_trans a b,fun e=>Nat.le_of_eq e.symm,fun w=>Nat.le_succ _⟩
theorem aj{a b:Prop}(k:b)(h:a:=by first|omega|rfl|(simp; done)|(simp; omega)):a/\b:=⟨h,k⟩
theorem ao{a b:Prop}(k:b)(h:a:=by omega):a/\b:=⟨h,k⟩
theorem aqa{a b:Prop}(k:b)(h:a:=by first|omega|rfl|exact .inl trivial|(simp; done)|(simp; omega)):a/\b:=⟨h,k⟩
theorem aqb{a b:Prop}(k:b)(h:a:=by first|omega|trivial):a/\b:=⟨h,k⟩
theorem aqc{a b:Prop}(k:b)(h:a:=by first|omega|(simp; omega)):a/\b:=⟨h,k⟩
theorem aqd{a b:Prop}(k:b)(h:a:=by first|omega|kernel_rfl):a/\b:=⟨h,k⟩
theorem aqe{a b:Prop}(k:b)(h:a:=by first|omega|rfl):a/\b:=⟨h,k⟩
theorem aqf{a b:Prop}(k:b)(h:a:=by first|omega|rfl|(simp; done)):a/\b:=⟨h,k⟩
theorem aqg{a b:Prop}(k:b)(h:a:=by first|omega|rfl|kernel_rfl|(simp; done)):a/\b:=⟨h,k⟩
theorem aqh{a b:Prop}(k:b)(h:a:=by first|omega|rfl|exact .inl rfl|exact .inl trivial|(simp; done)|(simp; omega)):a/\b:=⟨h,k⟩
theorem aqi{a b:Prop}(k:b)(h:a:=by first|omega|rfl|exact .inl rfl|exact .inl trivial|(simp; done)):a/\b:=⟨h,k⟩
theorem aqj{a b:Prop}(k:b)(h:a:=by first|omega|rfl|(simp; omega)):a/\b:=⟨h,k⟩
theorem ic(i:Nat):(i:Int)+1=((i+1:Nat):Int):=by omega
