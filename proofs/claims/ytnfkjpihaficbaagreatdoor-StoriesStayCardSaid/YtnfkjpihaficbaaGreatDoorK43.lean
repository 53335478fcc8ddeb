/- slices.SortFunc at looks, at most 12 of them. -/
import Derived.Test.YtnfkjpihaficbaaGreatDoorK42
set_option maxRecDepth 100000
set_option maxHeartbeats 4000000
set_option linter.unusedSimpArgs false
set_option linter.unusedVariables false
namespace Go.Proofs.YtnfkjpihaficbaaGreatDoor
open Go Go.Av Go.RowKit _root_.Go.Proofs.Tryz
theorem AkF(a b:El):Pc prog 55 [elA a,elA b] (· = .int .i64 (AjJ a b)):=by
 have ho:=BcR (cmpI a.kind b.kind) (Lib.compareBytes a.name b.name);simp only[elA];refine zpIB func55 rfl fun h ρ w=>?_
 simp only[go_sem];refine zr [.int .i64 (cmpI a.kind b.kind),.int .i64 (Lib.compareBytes a.name b.name),.int .i64 (AjJ a b)] mixed ?_;simp only[go_sem]
 repeat refine And.intro (by first|exact(AiV _ _).at|exact(AdY _ _).at|exact ho.at|omega|rfl|(simp; done)|(simp; omega)) ?_
 refine zgB ?_;simp only[go_sem];exact zt [4]
def lookA(y:Lk):AV:=.agg [.int .i64 y.el.kind,.str y.el.name,.str y.facet,.str y.value]
theorem AiK(l:List Lk)(i:Nat)(h:i<l.length):(l.map lookA).getD i .any=.agg [.int .i64 l[i].el.kind,.str l[i].el.name,.str l[i].facet,.str l[i].value]:=by simp[List.getD,h,lookA]
theorem AnV(l:List Lk)(i:Nat)(x:Lk):(l.map lookA).set i (.agg [.int .i64 x.el.kind,.str x.el.name,.str x.facet,.str x.value])=(l.set i x).map lookA:=by rw[List.map_set]; rfl
theorem AvA:∀ l:List Lk,(flat (l.map lookA)).all Av.frozen=true
 | []=>rfl
 | a::l=>by simp only[List.map_cons,flat,lookA,cellsOf,List.cons_append,List.nil_append,List.all_cons,Av.frozen,AvA l,Bool.and_self]
def lk00:Lk:=⟨⟨0,[]⟩,[],[]⟩
theorem atLk{q:List Lk}{i:Nat}(h:i<q.length):q.getD i lk00=q[i]:=by simp[List.getD,h]
theorem A9Q(a b:Lk):Pc prog 123 [lookA a,lookA b] (· = .int .i64 (kCmp (lkey a) (lkey b))):=by
 have hb:=AkF a.el b.el;have ho:=BcR (AjJ a.el b.el) (Lib.compareBytes a.facet b.facet);simp only[elA]at hb;simp only[lookA];refine zpIB func123 rfl fun h ρ w=>?_
 simp only[go_sem];refine zr [.int .i64 (AjJ a.el b.el),.int .i64 (Lib.compareBytes a.facet b.facet),.int .i64 (kCmp (lkey a) (lkey b))] mixed ?_;simp only[go_sem]
 repeat refine And.intro (by first|exact hb.at|exact(AdY _ _).at|exact ho.at|omega|rfl|(simp; done)|(simp; omega)) ?_
 refine zgB ?_;simp only[go_sem];exact zt [4]
theorem AxX{q l:List Lk}(hq:q.Perm l){i j:Nat}(h1:i<q.length)(h2:j<q.length):((q.set i q[j]).set j q[i]).Perm l:=(List.set_set_perm h1 h2).trans hq
theorem AiL{s:List Blk}{bid:Nat}(h:bid<s.length)(b:Blk):(s.set bid b).getD bid .dead=b:=by simp[List.getD,h]
def AlG(l:List Lk)(bid:Nat)(s:List Blk)(r:AV)(s':List Blk):Prop:=r=.tup []/\∃ l':List Lk,s'=s.set bid (.arr 4 (l'.map lookA))/\l'.Perm l/\l'.Pairwise fun x y=>¬ lkLt y x
theorem AxY(l:List Lk)(s:List Blk)(bid:Nat)(hb:bid<s.length)(hl:l.length<1000000) :
  Ct prog 226 [.sl bid 0 l.length l.length,.int .i64 0,.int .i64 l.length,.fn (.func 123) []] (s.set bid (.arr 4 (l.map lookA))) (AlG l bid s):=by
 have hg:∀ b,(s.set bid b).getD bid .dead=b:=AiL hb;have hss:∀ a b:Blk,(s.set bid a).set bid b=s.set bid b:=fun a b=>by simp
 refine zcIB func226 rfl fun h ρ w=>?_
 simp only[go_sem];refine AaC (ι:=Nat×List Lk) (fun y=>l.length+1-y.1) (fun y=>[(8,.int .i64 y.1),(3,.fn (.func 123) []),(2,.int .i64 l.length),(1,.int .i64 0),(0,.sl bid 0 l.length l.length)]) (fun y=>s.set bid (.arr 4 (y.2.map lookA)))
  (fun y=>1<=y.1/\y.2.Perm l/\AhN lkLt lk00 y.2 y.1) (1,l) ⟨by simp,.refl _,AnT _⟩ ?_ ?_
 .refine Shift.weakS ?_ rfl
  simp only[go_sem]
 .rintro ⟨i,q⟩ ⟨g1,g2,g3⟩ J hJ
  simp only at g1 g2 g3 hJ |-
  by_cases gi:i<l.length
  .have di:decide ((i:Int)<(l.length:Int))=true:=by simp; omega
   refine zgB ?_;simp only[go_sem,di];refine AaC (ι:=Nat×List Lk) (fun y=>y.1) (fun y=>[(9,.int .i64 y.1),(8,.int .i64 i),(3,.fn (.func 123) []),(2,.int .i64 l.length),(1,.int .i64 0),(0,.sl bid 0 l.length l.length)]) (fun y=>s.set bid (.arr 4 (y.2.map lookA)))
    (fun y=>y.1<=i/\y.2.Perm l/\InsI lkLt lk00 y.2 i y.1) (i,q) ⟨by simp,g2,AuW g3⟩ ?_ ?_
   .refine Shift.weakS ?_ rfl
    simp only[go_sem]
   .rintro ⟨j,p⟩ ⟨k2,k3,k4⟩ K hK
    simp only at k2 k3 k4 hK |-;have hq:=k3.length_eq
    by_cases hja:0<j
    .have dj:decide ((j:Int)>0)=true:=by simp; omega
     have e1:((j:Int)-1).toNat=j-1:=by omega
     have p1:=AiK p j (by omega);have p2:=AiK p (j-1) (by omega);have hc:=A9Q (p[j]'(by omega)) (p[j-1]'(by omega));simp only[lookA]at hc;refine zgB ?_;simp only[go_sem];refine zr [.int .i64 (kCmp (lkey (p[j]'(by omega))) (lkey (p[j-1]'(by omega))))] mixed ?_
     cases dc:decide (kCmp (lkey (p[j]'(by omega))) (lkey (p[j-1]'(by omega)))<0)with
     | true =>
      have hlt:lkLt (p.getD j lk00) (p.getD (j-1) lk00):=by
       rw[atLk (by omega),atLk (by omega)];exact kCmp_lt.1 (of_decide_eq_true dc)
      have p3:=AiK (p.set j (p[j-1]'(by omega))) (j-1) (by simp; omega);have s1:=AnV p j (p[j-1]'(by omega));have s2:=AnV (p.set j (p[j-1]'(by omega))) (j-1) (p[j]'(by omega));have hin:=A1G BeH k4 hja (by omega) hlt;rw[atLk (by omega),atLk (by omega)]at hin;have hfin:=hK (j-1,_) ⟨by simp only; omega,AxX k3 (i:=j) (j:=j-1) (by omega) (by omega),hin⟩ (by simp only; omega);simp only[go_sem,dj,e1,p1,p2,dc,List.length_map,hg]
      repeat first|refine And.intro (by first|exact hc.at) ?_|refine aj ?_
      refine zgB ?_;simp only[go_sem];refine AzZ [] mixed (by decide) rfl rfl 100 ?_;simp only[go_sem,e1,p1,p2,p3,s1,s2,List.length_map,List.length_set,hg,hss]
      repeat refine aj ?_
      refine zgB ?_;simp only[go_sem]
      repeat refine aj ?_
      rw[show(j:Int)-1=((j-1:Nat):Int) by omega];refine ainv hfin (Shift.weakS ?_ rfl);simp only[go_sem]
     | false =>
      have hlt:¬ lkLt (p.getD j lk00) (p.getD (j-1) lk00):=by
       rw[atLk (by omega),atLk (by omega)];exact fun h=>of_decide_eq_false dc (kCmp_lt.2 h)
      have hfin:=hJ (i+1,p) ⟨by simp only; omega,k3,A1F A9O k4 hja hlt⟩ (by simp only; omega);simp only[go_sem,dj,e1,p1,p2,dc,List.length_map,hg]
      repeat first|refine And.intro (by first|exact hc.at) ?_|refine aj ?_
      refine zgB ?_;simp only[go_sem]
      repeat refine aj ?_
      rw[ic i];refine ainv hfin (Shift.weakS ?_ rfl);simp only[go_sem]
    .have dj:decide ((j:Int)>0)=false:=by simp; omega
     have hj0:j=0:=by omega
     subst hj0;have hfin:=hJ (i+1,p) ⟨by simp only; omega,k3,AuX k4⟩ (by simp only; omega);refine zgB ?_;simp only[go_sem];refine zr [.any] mixed ?_;simp only[go_sem,dj]
     repeat refine aj ?_
     refine zgB ?_;simp only[go_sem]
     repeat refine aj ?_
     rw[ic i];refine ainv hfin (Shift.weakS ?_ rfl);simp only[go_sem]
  .have di:decide ((i:Int)<(l.length:Int))=false:=by simp; omega
   refine zgB ?_;simp only[go_sem,di];exact aret [] rfl ⟨rfl,q,rfl,g2,AnU g3 (by rw[g2.length_eq]; omega)⟩
theorem pdqLk(l:List Lk)(s:List Blk)(bid:Nat)(hb:bid<s.length)(hl:l.length<=12)(lim:AV)(hlim:nr1 lim=true) :
  Ct prog 171 [.sl bid 0 l.length l.length,.int .i64 0,.int .i64 l.length,lim,.fn (.func 123) []] (s.set bid (.arr 4 (l.map lookA))) (AlG l bid s):=by
 have hr:=AxY l s bid hb (by omega);have d1:decide ((l.length:Int)-0<=12)=true:=by simp; omega
 have d2:decide ((l.length:Int)<=12)=true:=by simp; omega
 refine zcIB func171 rfl fun h ρ w=>?_
 simp only[go_sem];refine AcY (around ?_);refine zgB ?_;simp only[go_sem,d1,d2]
 repeat refine aj ?_
 refine za (hr) ?_;rintro _ _ ⟨rfl,l',rfl,h1,h2⟩;refine zgB ?_;simp only[go_sem];exact aret [] rfl ⟨rfl,l',rfl,h1,h2⟩
theorem by1(x:UInt8):-9223372036854775808<=(x.toNat:Int):=by omega
theorem by2(x:UInt8):(x.toNat:Int)<=9223372036854775807:=by have:=x.toNat_lt; omega
theorem by3(x:UInt8):-9223372036854775808<=0+(x.toNat:Int):=by omega
theorem by4(x:UInt8):0+(x.toNat:Int)<=9223372036854775807:=by have:=x.toNat_lt; omega
theorem BeI(n:Nat)(hn:n<=12):Pc prog 222 [.int .u64 n] (fun r=>∃ m:Int,r=.int .i64 m):=by
 have d1:decide ((n:Int)>=4294967296)=false:=by simp; omega
 have d2:decide ((n:Int)>=65536)=false:=by simp; omega
 have d3:decide ((n:Int)>=256)=false:=by simp; omega
 refine zpIB func222 rfl fun h ρ w=>?_
 simp only[go_sem,d1,d2,d3]
 repeat refine And.intro (by first|omega|exact by1 _|exact by2 _|exact by3 _|exact by4 _|exact Int.ofNat_lt.2 (Nat.lt_of_lt_of_le (by omega:n<256) (by decide))) ?_
 exact aret [2] rfl ⟨⟨_,rfl⟩,rfl⟩
theorem BfW(n:Nat)(hn:n<=12):Pc prog 160 [.int .u64 n] (fun r=>∃ m:Int,r=.int .i64 m):=by
 refine zpIB func160 rfl fun h ρ w=>?_
 simp only[go_sem];refine ze (BeI n hn) ?_;rintro _ ⟨m,rfl⟩;refine zgB ?_;simp only[go_sem];exact aret [2] rfl ⟨⟨m,rfl⟩,rfl⟩
theorem BmK(n:Nat)(h:n<=12):IntKind.u64.wrap (n:Int)=(n:Int):=by
 rcases(by omega:n=0\/n=1\/n=2\/n=3\/n=4\/n=5\/n=6\/n=7\/n=8\/n=9\/n=10\/n=11\/n=12)with rfl|rfl|rfl|rfl|rfl|rfl|rfl|rfl|rfl|rfl|rfl|rfl|rfl <;> decide
theorem BmL(l:List Lk)(s:List Blk)(bid:Nat)(hb:bid<s.length)(hl:l.length<=12) :
  Ct prog 122 [.sl bid 0 l.length l.length,.fn (.func 123) []] (s.set bid (.arr 4 (l.map lookA))) (AlG l bid s):=by
 have hg:∀ b,(s.set bid b).getD bid .dead=b:=AiL hb;refine zcIB func122 rfl fun h ρ w=>?_
 simp only[go_sem,hg,List.length_map]
 repeat refine And.intro (by first|omega|exact BmK _ hl|rfl|(simp; done)|(simp; omega)) ?_
 refine ze (BfW l.length hl) ?_;rintro _ ⟨m,rfl⟩;refine zgB ?_;simp only[go_sem];refine za (pdqLk l s bid hb hl (.int .i64 m) rfl) ?_;rintro _ _ ⟨rfl,l',rfl,h1,h2⟩;refine zgB ?_;simp only[go_sem];exact aret [] rfl ⟨rfl,l',rfl,h1,h2⟩
theorem ArU{α β:Type}{f g:α->Option β}:∀ {l:List α},(∀ x∈l,f x=g x)->l.filterMap f=l.filterMap g
 | [],_=>rfl
 | a::l,h=>by
  rw[List.filterMap_cons,List.filterMap_cons,h a (by simp),ArU (l:=l) fun x hx=>h x (by simp[hx])]
theorem ArV:∀ (n:Nat)(l:List Nat),l.Nodup->(∀ x∈l,x<n)->l.length<=n
 | 0,l,_,h=>by
  cases l with
  | nil=>simp
  | cons a l=>exact absurd (h a (by simp)) (by omega)
 | n+1,l,hn,h=>by
  have h1:=ArV n (l.erase n) (hn.erase n) (fun x hx=>by
   have h2:=h x (List.mem_of_mem_erase hx);have h3:x≠n:=fun e=>by
    subst e;exact(hn.not_mem_erase) hx
   omega)
  have h4:=List.length_erase (a:=n) (l:=l)
  split at h4 <;> omega
def atL(es:LMap)(seen:List Nat):List Lk:=seen.filterMap fun i=>(es[i]?.join).map fun y=>⟨y.1.1,y.1.2,y.2⟩
theorem BeJ(es:LMap):∀ seen:List Nat,seen.Perm (List.range es.length)->(atL es seen).Perm (lvL es):=by
 intro seen hp;have h1:(atL es seen).Perm (atL es (List.range es.length)):=hp.filterMap _;refine h1.trans (.of_eq ?_);unfold atL lvL;have key:∀ (l pre:LMap),(List.range' pre.length l.length).filterMap (fun i=>(((pre++l)[i]?).join).map fun y=>(⟨y.1.1,y.1.2,y.2⟩:Lk))=l.filterMap fun x=>x.map fun y=>⟨y.1.1,y.1.2,y.2⟩:=by
  intro l
  induction l with
  | nil=>intro pre; rfl
  | cons a l ih =>
   intro pre;have h:=ih (pre++[a]);rw[List.append_assoc,List.singleton_append,List.length_append,List.length_singleton]at h;rw[List.length_cons,List.range'_succ,List.filterMap_cons,List.filterMap_cons,h];have:(pre++a::l)[pre.length]? = some a:=by simp
   rw[this];rfl
 have:=key es [];rw[List.nil_append]at this;rw[List.range_eq_range'];exact this
theorem BjY{es:LMap}{seen:List Nat}(hn:seen.Nodup)(hlt:∀ i∈seen,∃ y,es[i]? = some (some y))(hall:∀ i y,es[i]? = some (some y)->i∈seen):(atL es seen).Perm (lvL es):=by
 have hl:atL es seen=seen.filterMap fun i=>(es[i]?.join).map fun y=>(⟨y.1.1,y.1.2,y.2⟩:Lk):=rfl
 have hp:((List.range es.length).filter (fun i=>decide (i∈seen))).Perm seen:=by
  rw[List.perm_ext_iff_of_nodup ((List.nodup_range).filter _) hn];intro i;simp only[List.mem_filter,List.mem_range,decide_eq_true_eq]
  constructor
  .exact fun h=>h.2
  .intro h
   obtain⟨y,hy⟩:=hlt i h;exact⟨(List.getElem?_eq_some_iff.1 hy).1,h⟩
 have h1:(atL es seen).Perm (atL es ((List.range es.length).filter (fun i=>decide (i∈seen)))):=(hp.filterMap _).symm;refine h1.trans ?_;have h2:atL es ((List.range es.length).filter (fun i=>decide (i∈seen)))=atL es (List.range es.length):=by
  unfold atL;rw[List.filterMap_filter];refine ArU ?_;intro i hi
  by_cases hs:i∈seen
  .simp [hs]
  .simp only [hs,decide_false]
   cases hq:es[i]? with
   | none=>rfl
   | some o =>
    cases o with
    | none=>rfl
    | some y=>exact absurd (hall i y hq) hs
 rw[h2];exact BeJ es _ (.refl _)
theorem BmM{es:LMap}{j:Nat}{z:AV×AV}(h:(lkM es)[j]? = some z)(hz:AaR z.1=true):∃ y,es[j]? = some (some y)/\z=(lkA y.1,.str y.2):=by
 unfold lkM at h;rw[List.getElem?_map,Option.map_eq_some_iff]at h;obtain⟨o,h1,rfl⟩:=h
 cases o with
 | none=>cases hz
 | some y=>exact⟨y,h1,rfl⟩
theorem BeK{es:LMap}{seen:List Nat}{j:Nat}{y:(El×List UInt8)×List UInt8}(h:es[j]? = some (some y)):atL es (seen++[j])=atL es seen++[⟨y.1.1,y.1.2,y.2⟩]:=by
 unfold atL;rw[List.filterMap_append]
 simp[h]
theorem A9R{es:LMap}{seen:List Nat}(hn:seen.Nodup)(hlt:∀ i∈seen,∃ y,es[i]? = some (some y)):seen.length<=es.length:=by
 exact ArV _ _ hn fun i hi=>by
  obtain⟨y,hy⟩:=hlt i hi;exact(List.getElem?_eq_some_iff.1 hy).1
theorem A9S(es:LMap)(hu:AbX es)(hl:es.length<=12)(s:List Blk)(id:Nat)(hid:s[id]? = some (.mp (lkM es)))(hT:s.all (lowB s.length)=true) :
  Ct prog 67 [.mp id] s (fun r s'=>∃ l seen,AdZ es l/\r=.sl (s.length+1) 0 l.length l.length/\s'=s++[.it id es.length seen,.arr 4 (l.map lookA)]):=by
 have h0:=AdQ hid;have h00:=AeU hid;have hil:=(List.getElem?_eq_some_iff.1 hid).1;have hml:(lkM es).length=es.length:=by simp[lkM]
 refine zcIB func67 rfl fun h ρ w=>?_
 simp only[go_sem,h00,hml];refine AaC (ι:=List Nat) (fun y=>es.length-y.length)
  (fun y=>[(7,.mp s.length),(3,.sl (s.length+1) 0 (atL es y).length (atL es y).length)])
  (fun y=>s++[.it id es.length y,.arr 4 ((atL es y).map lookA)]) (fun y=>y.Nodup/\(∀ i∈y,∃ v,es[i]? = some (some v))/\(atL es y).length<=y.length) [] ⟨.nil,by simp,by simp[atL]⟩ ?_ ?_
 .refine Shift.trans (Shift.nilsl 3 4 rfl) (Shift.weakS ?_ ?_)
  .simp only [go_sem,List.length_append,List.length_cons,List.length_nil]
   simp[atL]
  .simp [atL]
 rintro seen ⟨n1,n2,n3⟩ J hJ
 try simp only at n1 n2 n3 hJ |-
 have hpg:=A9R n1 n2;refine goB rfl 3 ?_;simp only[go_sem];refine anext (id:=s.length) (mid:=id) (es:=lkM es) rfl rfl gt_at0 (h0 _) hml ?_ ?_
 .intro hall
  have hs:=BmL (atL es seen) (s++[.it id es.length seen,.arr 4 ((atL es seen).map lookA)]) (s.length+1) (by simp) (by omega);unfold AlG at hs;simp only[st_at,List.set_cons_succ,List.set_cons_zero]at hs;have hp:=BjY n1 n2 fun i y hy=>by
   refine hall i (lkA y.1,.str y.2) ?_ rfl;unfold lkM;rw[List.getElem?_map,hy];rfl
  refine zgB ?_;simp only[go_sem];refine za (hs) ?_;rintro _ _ ⟨rfl,l',rfl,h1,h2⟩;refine zgB ?_;simp only[go_sem];exact aret [2] rfl ⟨l',seen,AoH hu (h1.trans hp) h2,by simp only[resV,Av.get,Av.put,beq_self_eq_true,cond_true,h1.length_eq],rfl⟩
 .intro j z hj hz hlive
  obtain⟨y,hy,rfl⟩:=BmM hz hlive;have hlast:(lkM es).getD ((seen++[j]).getLastD 0) (.any,.any)=(lkA y.1,.str y.2):=by
   rw[show(seen++[j]).getLastD 0=j by simp,List.getD_eq_getElem?_getD,hz]; rfl
  have hnd:(seen++[j]).Nodup:=by
   rw[List.nodup_append];exact⟨n1,by simp,fun a ha b hb e=>hj (by rw[List.mem_singleton.1 hb]at e; rw[<- e]; exact ha)⟩
  have hlt2:∀ x∈seen++[j],∃ v,es[x]? = some (some v):=fun x hx=>by
   rcases List.mem_append.1 hx with hx|hx
   .exact n2 x hx
   .rw [List.mem_singleton.1 hx]; exact⟨y,hy⟩
  have hpg2:=A9R hnd hlt2;rw[List.length_append,List.length_singleton]at hpg2;have hat:=BeK (seen:=seen) hy;have hfin:=hJ (seen++[j]) ⟨hnd,hlt2,by rw[hat]; simp; omega⟩ (by simp; omega);simp only[hat,List.length_append,List.length_cons,List.length_nil,List.map_append,List.map_cons,List.map_nil,Nat.zero_add,lookA]at hfin;obtain⟨⟨⟨kk,nn⟩,ff⟩,vv⟩:=y;simp only[lkA]at hlast hfin |-;refine zgB ?_;simp only[go_sem,hlast,h0,gt_at,gt_at0,st_at,st_at0,List.append_assoc,List.length_map]
  repeat refine ai ?_
  refine ainv hfin ?_;refine AcP s [_,_] [_] rfl (by simp) hT ?_ ?_
  .rw [List.all_cons,List.all_cons,List.all_nil,Bool.and_true,Bool.and_eq_true]
   refine⟨by simp[lowB]; omega,?_⟩;simp only[lowB,flat_append,List.all_append,AaD (AvA _),flat,cellsOf,lowC,Av.frozen,List.append_nil,List.cons_append,List.nil_append,List.all_cons,List.all_nil,Bool.and_self]
  .simp only [go_sem]
   repeat(first|rfl|(simp; done)|(simp; omega)|refine And.intro (by first|rfl|(simp; done)|(simp; omega)) ?_)
def vAt(es:NMap)(i:Nat):AV:=((ndM es).getD i (.any,.any)).2
def itU(mid n:Nat):Option (List Nat)->List Blk
 | none=>[]
 | some seen=>[.it mid n seen]
def AnW(es:NMap)(seen:List Nat):Prop:=seen.Nodup/\(∀ i∈seen,∃ y,es[i]? = some (some y))/\∀ i y,es[i]? = some (some y)->i∈seen
theorem BmN{es:NMap}{j:Nat}{z:AV×AV}(hz:(ndM es)[j]? = some z)(hl:AaR z.1=true):∃ y,es[j]? = some (some y)/\z=(elA y.1,ndV y.1 y.2):=by
 unfold ndM at hz;rw[List.getElem?_map]at hz
 cases hq:es[j]? with
 | none=>rw[hq]at hz; cases hz
 | some o =>
  rw[hq]at hz
  cases o with
  | none =>
   cases hz
   cases hl
  | some y=>exact⟨y,rfl,(Option.some.inj hz).symm⟩
def VOk(es:NMap)(j:List AV)(x:AV):Prop:=∃ (seen:List Nat)(i:Nat)(y:El×Int×Bool),(∀ k∈seen,∃ v,es[k]? = some (some v))/\j=seen.map (vAt es)/\seen.length<es.length/\es[i]? = some (some y)/\x=ndV y.1 y.2
theorem A3M{St:Std}(T:List AV->List Blk)(m bx mid:Nat)(es:NMap)(hm:∀ j,(T j).length=m)(hbx:∀ j,(T j)[bx]? = some (.arr 1 [.mp mid]))(hmid:∀ j,(T j)[mid]? = some (.mp (ndM es)))(hT:∀ y:List Nat,(∀ i∈y,∃ v,es[i]? = some (some v))->(T (y.map (vAt es))).all (lowB m)=true) :
  ItA prog St 110 [.ptr bx 1 0 0] (VOk es) (fun j=>∃ seen,AnW es seen/\j=seen.map (vAt es)) (fun j q=>T j++itU mid es.length q) none:=by
 refine A9M func110 rfl ntmps110 hB110 rfl (by simp) fun l c out hP hfn hsto hg hY hfin=>?_
 obtain⟨P,fn,h,ρ,sto,w,post,x,hx⟩:=c;simp only at hP hfn hsto hg hY;subst hP; subst hfn; subst hsto;have b1:=fun j=>AdQ (hbx j)
 have b2:=fun j=>AdQ (hmid j)
 have b10:=fun j=>AeU (hbx j)
 have b20:=fun j=>AeU (hmid j)
 have hml:(ndM es).length=es.length:=by simp[ndM]
 simp only[itU,List.append_nil];refine goR ntmps110 300 ?_;simp only[go_sem,b1,b2,b10,b20,hml,hm]
 repeat refine ai ?_
 have itm:∀ j (b:Blk) (U:List Blk),(T j++b::U).getD m .dead=b:=fun j b U=>by
  have:=gt_at0 (T:=T j) (U:=b::U) (d:=Blk.dead);rw[hm]at this;exact this
 refine BfL (ι:=List Nat) (fun y=>es.length-y.length) (fun y=>[(6,.mp m),(0,.raw (.func (.yield l) #[] #[])),(1,.ptr bx 1 0 0)]) (fun y=>T (y.map (vAt es))++[.it mid es.length y])
  (fun y=>y.Nodup/\∀ i∈y,∃ v,es[i]? = some (some v)) [] ⟨.nil,by simp⟩ ?_ ?_
 .refine Shift.weakS ?_ rfl
  simp only[go_sem]
 rintro seen ⟨n1,n2⟩ J hJ;refine goR ntmps110 3 ?_;simp only[go_sem];refine BmI (id:=m) (mid:=mid) (es:=ndM es) rfl rfl (itm _ _ _) (b2 _ _) hml ?_ ?_
 .intro hall
  have hfa:AnW es seen:=⟨n1,n2,fun i y hy=>by
   refine hall i (elA y.1,ndV y.1 y.2) ?_ rfl;unfold ndM;rw[List.getElem?_map,hy];rfl⟩
  refine goR ntmps110 300 ?_;simp only[go_sem];have hf:=hfin .normal (seen.map (vAt es)) (some seen) ⟨seen,hfa,rfl⟩ (.inl rfl);simp only[itU,List.append_nil]at hf;exact AOut.shift (e':=[]) (Shift.weak trivial) hf
 .intro j z hj hz hlive
  obtain⟨y,hy,rfl⟩:=BmN hz hlive;have its:∀ jj (b b':Blk),(T jj++[b]).set m b'=T jj++[b']:=fun jj b b'=>by
   have:=st_at0 (T:=T jj) (U:=[b]) (b:=b');rw[hm]at this;exact this
  have hlast:(ndM es).getD ((seen++[j]).getLastD 0) (.any,.any)=(elA y.1,ndV y.1 y.2):=by
   rw[show(seen++[j]).getLastD 0=j by simp,List.getD_eq_getElem?_getD,hz]; rfl
  have hv:vAt es j=ndV y.1 y.2:=by
   unfold vAt;rw[List.getD_eq_getElem?_getD,hz]; rfl
  have itm1:∀ jj (U:List Blk) (d:Blk),(T jj++U).getD (m+1) d=U.getD 1 d:=fun jj U d=>by
   have:=gt_at (T:=T jj) (U:=U) (c:=1) (d:=d);rw[hm]at this;exact this
  have its1:∀ jj (U:List Blk) (b:Blk),(T jj++U).set (m+1) b=T jj++U.set 1 b:=fun jj U b=>by
   have:=st_at (T:=T jj) (U:=U) (c:=1) (b:=b);rw[hm]at this;exact this
  have hlt:seen.length<es.length:=by
   have:=ArV (es.length) (seen++[j]) (by
    rw[List.nodup_append];exact⟨n1,by simp,fun a ha b hb e=>hj (by rw[List.mem_singleton.1 hb]at e; rw[<- e]; exact ha)⟩) (fun i hi=>by
    rcases List.mem_append.1 hi with hi|hi
    .obtain ⟨v,hv⟩:=n2 i hi
     exact(List.getElem?_eq_some_iff.1 hv).1
    .rw [List.mem_singleton.1 hi]; exact(List.getElem?_eq_some_iff.1 hy).1)
   simp at this
   omega
  rw[its];obtain⟨⟨k1,k2⟩,v1,v2⟩:=y;simp only[ndV,ndA,elA]at hlast hv |-;refine goR ntmps110 300 ?_;simp only[go_sem,hlast,itm,itm1,its1,b2,b20,hm,List.append_assoc,List.cons_append,List.nil_append,List.set_cons_succ,List.set_cons_zero,List.getD_cons_succ,List.getD_cons_zero,List.length_append,List.length_cons,List.length_nil]
  repeat refine ai ?_
  have hlu:[Blk.it mid es.length (seen++[j])].all (lowB ((T (seen.map (vAt es))).length+[Blk.it mid es.length (seen++[j])].length))=true:=by
   have hmi:=(List.getElem?_eq_some_iff.1 (hmid (seen.map (vAt es)))).1;simp only[List.all_cons,List.all_nil,Bool.and_true,List.length_cons,List.length_nil,lowB,decide_eq_true_eq];omega
  refine AWpR.shift (AcP (T (seen.map (vAt es))) [_] [_] rfl (by rw[hm]; exact Nat.le_of_eq (hm _).symm) (by rw[hm]; exact hT _ n2) hlu (e':=[(12,.agg [.int .i64 k1,.str k2,.int .i64 v1,.bool v2]),(11,.raw (.func (.yield l) #[] #[])),(6,.mp m),(0,.raw (.func (.yield l) #[] #[])),(1,.ptr bx 1 0 0)]) ?_) ?_
  .have hbi:=(List.getElem?_eq_some_iff.1 (hbx (seen.map (vAt es)))).1
   rw[hm]at hbi;simp only[hm,wkl,lowV,lowC,Av.get,go_sem,List.length_cons,List.length_nil]
   repeat(first|rfl|(simp; done)|(simp; omega)|refine And.intro (by first|rfl|(simp; done)|(simp; omega)) ?_)
  have hmap:(seen++[j]).map (vAt es)=seen.map (vAt es)++[.agg [.int .i64 k1,.str k2,.int .i64 v1,.bool v2]]:=by
   rw[List.map_append,List.map_cons,List.map_nil,hv]
  have hjl:=(List.getElem?_eq_some_iff.1 hy).1;have hfn:=hJ (seen++[j]) ⟨by
   rw[List.nodup_append];exact⟨n1,by simp,fun a ha b hb e=>hj (by rw[List.mem_singleton.1 hb]at e; rw[<- e]; exact ha)⟩,fun i hi=>by
   rcases List.mem_append.1 hi with hi|hi
   .exact n2 i hi
   .rw [List.mem_singleton.1 hi]; exact⟨_,hy⟩⟩ (by
   have:=ArV (es.length) (seen++[j]) (by
    rw[List.nodup_append];exact⟨n1,by simp,fun a ha b hb e=>hj (by rw[List.mem_singleton.1 hb]at e; rw[<- e]; exact ha)⟩) (fun i hi=>by
    rcases List.mem_append.1 hi with hi|hi
    .obtain ⟨v,hv⟩:=n2 i hi
     exact(List.getElem?_eq_some_iff.1 hv).1
    .rw [List.mem_singleton.1 hi]; exact hjl)
   simp at this |-
   omega)
  rw[hmap]at hfn;refine A7H (f:=?f) (x:=?x) (ts:=?ts) (s':=T (seen.map (vAt es)++[.agg [.int .i64 k1,.str k2,.int .i64 v1,.bool v2]])++[.it mid es.length (seen++[j])]) (l:=l) ?ho ?hf ?_ ?_
  case ho=>rfl
  case hf=>rfl
  .intro a1 a2 a3 a4 b1 b2 b3 b4
   have hyy:=hY (seen.map (vAt es)) (some (seen++[j])) (.agg [.int .i64 k1,.str k2,.int .i64 v1,.bool v2]) ⟨seen,j,(⟨k1,k2⟩,v1,v2),n2,rfl,hlt,hy,rfl⟩ a1 a2 a3 a4;simp only[itU,List.append_nil]at hyy;exact hyy b1 b2 b3 b4
  refine goR ntmps110 300 ?_;simp only[go_sem];refine ArE hfn (Shift.weak ?_);simp only[go_sem]
def nd00:Nd:=⟨⟨0,[]⟩,0,false⟩
def ndLt(a b:Nd):Prop:=elLt a.el b.el
theorem A9T(x y z:Nd)(h1:¬ ndLt y x)(h2:¬ ndLt z y):¬ ndLt z x:=elO.ntrans h1 h2
theorem BeL(x y:Nd)(h:ndLt x y):¬ ndLt y x:=elO.asymm h
theorem ArW(l:List Nd)(i:Nat)(h:i<l.length):(l.map ndA).getD i .any=.agg [.int .i64 l[i].el.kind,.str l[i].el.name,.int .i64 l[i].n,.bool l[i].hand]:=by simp[List.getD,h,ndA]
theorem AxZ(l:List Nd)(i:Nat)(x:Nd):(l.map ndA).set i (.agg [.int .i64 x.el.kind,.str x.el.name,.int .i64 x.n,.bool x.hand])=(l.set i x).map ndA:=by rw[List.map_set]; rfl
theorem A9U:∀ l:List Nd,(flat (l.map ndA)).all Av.frozen=true
 | []=>rfl
 | a::l=>by simp only[List.map_cons,flat,ndA,cellsOf,List.cons_append,List.nil_append,List.all_cons,Av.frozen,A9U l,Bool.and_self]
theorem atNd{q:List Nd}{i:Nat}(h:i<q.length):q.getD i nd00=q[i]:=by simp[List.getD,h]
theorem BjZ(a b:Nd):Pc prog 54 [ndA a,ndA b] (· = .int .i64 (AjJ a.el b.el)):=by
 have hb:=AkF a.el b.el;simp only[elA]at hb;simp only[ndA];refine zpIB func54 rfl fun h ρ w=>?_
 simp only[go_sem];refine zpB (hb) ?_;simp only[go_sem];exact zt [4]
theorem AyA{q l:List Nd}(hq:q.Perm l){i j:Nat}(h1:i<q.length)(h2:j<q.length):((q.set i q[j]).set j q[i]).Perm l:=(List.set_set_perm h1 h2).trans hq
def AlH(l:List Nd)(bid:Nat)(s:List Blk)(r:AV)(s':List Blk):Prop:=r=.tup []/\∃ l':List Nd,s'=s.set bid (.arr 4 (l'.map ndA))/\l'.Perm l/\l'.Pairwise fun x y=>¬ ndLt y x
theorem AyB(l:List Nd)(s:List Blk)(bid:Nat)(hb:bid<s.length)(hl:l.length<1000000) :
  Ct prog 213 [.sl bid 0 l.length l.length,.int .i64 0,.int .i64 l.length,.fn (.func 54) []] (s.set bid (.arr 4 (l.map ndA))) (AlH l bid s):=by
 have hg:∀ b,(s.set bid b).getD bid .dead=b:=AiL hb;have hss:∀ a b:Blk,(s.set bid a).set bid b=s.set bid b:=fun a b=>by simp
 refine zcIB func213 rfl fun h ρ w=>?_
 simp only[go_sem];refine AaC (ι:=Nat×List Nd) (fun y=>l.length+1-y.1) (fun y=>[(8,.int .i64 y.1),(3,.fn (.func 54) []),(2,.int .i64 l.length),(1,.int .i64 0),(0,.sl bid 0 l.length l.length)]) (fun y=>s.set bid (.arr 4 (y.2.map ndA)))
  (fun y=>1<=y.1/\y.2.Perm l/\AhN ndLt nd00 y.2 y.1) (1,l) ⟨by simp,.refl _,AnT _⟩ ?_ ?_
 .refine Shift.weakS ?_ rfl
  simp only[go_sem]
 .rintro ⟨i,q⟩ ⟨g1,g2,g3⟩ J hJ
  simp only at g1 g2 g3 hJ |-
  by_cases gi:i<l.length
  .have di:decide ((i:Int)<(l.length:Int))=true:=by simp; omega
   refine zgB ?_;simp only[go_sem,di];refine AaC (ι:=Nat×List Nd) (fun y=>y.1) (fun y=>[(9,.int .i64 y.1),(8,.int .i64 i),(3,.fn (.func 54) []),(2,.int .i64 l.length),(1,.int .i64 0),(0,.sl bid 0 l.length l.length)]) (fun y=>s.set bid (.arr 4 (y.2.map ndA)))
    (fun y=>y.1<=i/\y.2.Perm l/\InsI ndLt nd00 y.2 i y.1) (i,q) ⟨by simp,g2,AuW g3⟩ ?_ ?_
   .refine Shift.weakS ?_ rfl
    simp only[go_sem]
   .rintro ⟨j,p⟩ ⟨k2,k3,k4⟩ K hK
    simp only at k2 k3 k4 hK |-;have hq:=k3.length_eq
    by_cases hja:0<j
    .have dj:decide ((j:Int)>0)=true:=by simp; omega
     have e1:((j:Int)-1).toNat=j-1:=by omega
     have p1:=ArW p j (by omega);have p2:=ArW p (j-1) (by omega);have hc:=BjZ (p[j]'(by omega)) (p[j-1]'(by omega));simp only[ndA]at hc;refine zgB ?_;simp only[go_sem];refine zr [.int .i64 (AjJ (p[j]'(by omega)).el (p[j-1]'(by omega)).el)] mixed ?_
     cases dc:decide (AjJ (p[j]'(by omega)).el (p[j-1]'(by omega)).el<0)with
     | true =>
      have hlt:ndLt (p.getD j nd00) (p.getD (j-1) nd00):=by
       rw[atNd (by omega),atNd (by omega)];exact elCmp_lt.1 (of_decide_eq_true dc)
      have p3:=ArW (p.set j (p[j-1]'(by omega))) (j-1) (by simp; omega);have s1:=AxZ p j (p[j-1]'(by omega));have s2:=AxZ (p.set j (p[j-1]'(by omega))) (j-1) (p[j]'(by omega));have hin:=A1G BeL k4 hja (by omega) hlt;rw[atNd (by omega),atNd (by omega)]at hin;have hfin:=hK (j-1,_) ⟨by simp only; omega,AyA k3 (i:=j) (j:=j-1) (by omega) (by omega),hin⟩ (by simp only; omega);simp only[go_sem,dj,e1,p1,p2,dc,List.length_map,hg]
      repeat first|refine And.intro (by first|exact hc.at) ?_|refine aj ?_
      refine zgB ?_;simp only[go_sem];refine AzZ [] mixed (by decide) rfl rfl 100 ?_;simp only[go_sem,e1,p1,p2,p3,s1,s2,List.length_map,List.length_set,hg,hss]
      repeat refine aj ?_
      refine zgB ?_;simp only[go_sem]
      repeat refine aj ?_
      rw[show(j:Int)-1=((j-1:Nat):Int) by omega];refine ainv hfin (Shift.weakS ?_ rfl);simp only[go_sem]
     | false =>
      have hlt:¬ ndLt (p.getD j nd00) (p.getD (j-1) nd00):=by
       rw[atNd (by omega),atNd (by omega)];exact fun h=>of_decide_eq_false dc (elCmp_lt.2 h)
      have hfin:=hJ (i+1,p) ⟨by simp only; omega,k3,A1F A9T k4 hja hlt⟩ (by simp only; omega);simp only[go_sem,dj,e1,p1,p2,dc,List.length_map,hg]
      repeat first|refine And.intro (by first|exact hc.at) ?_|refine aj ?_
      refine zgB ?_;simp only[go_sem]
      repeat refine aj ?_
      rw[ic i];refine ainv hfin (Shift.weakS ?_ rfl);simp only[go_sem]
    .have dj:decide ((j:Int)>0)=false:=by simp; omega
     have hj0:j=0:=by omega
     subst hj0;have hfin:=hJ (i+1,p) ⟨by simp only; omega,k3,AuX k4⟩ (by simp only; omega);refine zgB ?_;simp only[go_sem];refine zr [.any] mixed ?_;simp only[go_sem,dj]
     repeat refine aj ?_
     refine zgB ?_;simp only[go_sem]
     repeat refine aj ?_
     rw[ic i];refine ainv hfin (Shift.weakS ?_ rfl);simp only[go_sem]
  .have di:decide ((i:Int)<(l.length:Int))=false:=by simp; omega
   refine zgB ?_;simp only[go_sem,di];exact aret [] rfl ⟨rfl,q,rfl,g2,AnU g3 (by rw[g2.length_eq]; omega)⟩
theorem pdqNd(l:List Nd)(s:List Blk)(bid:Nat)(hb:bid<s.length)(hl:l.length<=12)(lim:AV)(hlim:nr1 lim=true) :
  Ct prog 159 [.sl bid 0 l.length l.length,.int .i64 0,.int .i64 l.length,lim,.fn (.func 54) []] (s.set bid (.arr 4 (l.map ndA))) (AlH l bid s):=by
 have hr:=AyB l s bid hb (by omega);have d1:decide ((l.length:Int)-0<=12)=true:=by simp; omega
 have d2:decide ((l.length:Int)<=12)=true:=by simp; omega
 refine zcIB func159 rfl fun h ρ w=>?_
 simp only[go_sem];refine AcY (around ?_);refine zgB ?_;simp only[go_sem,d1,d2]
 repeat refine aj ?_
 refine za (hr) ?_;rintro _ _ ⟨rfl,l',rfl,h1,h2⟩;refine zgB ?_;simp only[go_sem];exact aret [] rfl ⟨rfl,l',rfl,h1,h2⟩
theorem BmO(l:List Nd)(s:List Blk)(bid:Nat)(hb:bid<s.length)(hl:l.length<=12) :
  Ct prog 109 [.sl bid 0 l.length l.length,.fn (.func 54) []] (s.set bid (.arr 4 (l.map ndA))) (AlH l bid s):=by
 have hg:∀ b,(s.set bid b).getD bid .dead=b:=AiL hb;refine zcIB func109 rfl fun h ρ w=>?_
 simp only[go_sem,hg,List.length_map]
 repeat refine And.intro (by first|omega|exact BmK _ hl|rfl|(simp; done)|(simp; omega)) ?_
 refine ze (BfW l.length hl) ?_;rintro _ ⟨m,rfl⟩;refine zgB ?_;simp only[go_sem];refine za (pdqNd l s bid hb hl (.int .i64 m) rfl) ?_;rintro _ _ ⟨rfl,l',rfl,h1,h2⟩;refine zgB ?_;simp only[go_sem];exact aret [] rfl ⟨rfl,l',rfl,h1,h2⟩
