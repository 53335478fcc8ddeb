/- Next: the next draft of a script. -/
import Derived.Test.YtccfklnmolggiaaGreatDoorZ31
import Derived.Lib.AppendZerosOnto
import Derived.Lib.Overlaps
import Derived.Lib.Fields
set_option maxRecDepth 100000
set_option linter.all false
namespace Go.Proofs.YtccfklnmolggiaaGreatDoor
open Av RowKit
end Go.Proofs.YtccfklnmolggiaaGreatDoor
namespace Go.Proofs.YtccfklnmolggiaaGreatDoor
open Av RowKit
section
variable {α β:Type}
end
end Go.Proofs.YtccfklnmolggiaaGreatDoor
namespace Go.Proofs.YtccfklnmolggiaaGreatDoor
open Av RowKit
def okE(l:LU):Prop:=(∀ c∈l,AbJ c=true)/\∀ h:l≠[],l.getLast h≠32
theorem okE_nil:okE []:=⟨by simp,fun h=>absurd rfl h⟩
theorem AwZ{l:LU}(h:okE l)(hl:l.length<=80):LineFit l:=by
 refine⟨hl,?_,List.all_eq_true.2 h.1⟩;rw[Lib.hasSuffix,Bool.eq_false_iff];intro he;rw[List.isSuffixOf_iff_suffix]at he;obtain⟨t,rfl⟩:=he;exact h.2 (by simp) (by simp)
theorem AoB{a b:LU}(ha:∀ c∈a,AbJ c=true)(hb:okE b)(hne:b≠[]):okE (a++b):=by
 refine⟨fun c hc=>?_,fun h=>?_⟩
 .rcases List.mem_append.1 hc with hc|hc
  .grind
  .exact hb.1 c hc
 .rw [List.getLast_append_of_ne_nil _ hne]; exact hb.2 hne
theorem A8A:AbJ 32=true:=by decide
def AmG(w:LU):Prop:=∀ c∈w,AbJ c=true/\c≠32
theorem AqQ{w:LU}(h:AmG w):okE w:=⟨fun c hc=>(h c hc).1,fun hne=>(h _ (List.getLast_mem hne)).2⟩
theorem AjE:∀ t:LU,(∀ c∈t,AbJ c=true)->∀ w∈splitW t,AmG w
 | [],_,w,hw=>by simp[splitW]at hw; intro c hc; grind
 | c::r,h,w,hw=>by
  have ih:=AjE r fun x hx=>h x (by simp[hx])
  rw[splitW]at hw
  split at hw
  .rcases List.mem_cons.1 hw with rfl|hw
   .intro c hc; simp at hc
   .exact ih w hw
  .rename_i hc
   have hc:c≠32:=by simpa using hc
   cases hq:splitW r with
   | nil =>
    rw[hq]at hw
    simp[ApZ]at hw
    subst hw;intro x hx;rw[List.mem_singleton.1 hx]; exact⟨h c (by simp),hc⟩
   | cons v vs =>
    rw[hq]at hw ih
    rcases List.mem_cons.1 hw with rfl|hw
    .intro x hx
     rcases List.mem_cons.1 hx with rfl|hx
     .exact ⟨h x (by simp),hc⟩
     .exact ih v (by simp) x hx
    .exact ih w (by simp[hw])
theorem A2F{w:LU}(h:AmG w)(n:Nat):AmG (w.take n):=fun c hc=>h c (lbh hc)
theorem A2G{w:LU}(h:AmG w)(n:Nat):AmG (w.drop n):=fun c hc=>h c (lbe hc)
theorem AoC{W:Nat}(hW:0<W):∀ (n:Nat)(w:LU),w.length<=n->AmG w->(∀ l∈(chop W w).1,AmG l/\l.length<=W/\l≠[])/\AmG (chop W w).2/\(chop W w).2.length<=W
 | 0,w,h,hw=>by grind[chop_end]
 | n+1,w,h,hw=>by
  by_cases hc:W<w.length
  .obtain ⟨h1,h2,h3⟩:=AoC hW n (w.drop W) (by simp; omega) (A2G hw W)
   rw[AcR hc hW];refine⟨fun l hl=>?_,h2,h3⟩
   rcases List.mem_cons.1 hl with rfl|hl
   .refine ⟨A2F hw W,by simp; omega,fun e=>?_⟩
    have:=congrArg List.length e;simp only[List.length_take,lar]at this;omega
   .exact h1 l hl
  .rw [chop_end hc]; exact⟨by simp,hw,by simp only; omega⟩
structure WF(W:Nat)(st:List LU×LU):Prop where
 done:∀ l∈st.1,okE l/\l.length<=W/\l≠[]
 cur:okE st.2/\st.2.length<=W
theorem A8B{W:Nat}(hW:0<W){st:List LU×LU}(h:WF W st){w:LU}(hw:AmG w):WF W (wrapS W st w):=by
 obtain⟨dn,cur⟩:=st;obtain⟨h1,h2⟩:=h;unfold wrapS
 by_cases h0:w=[]
 .subst h0
  exact⟨h1,h2⟩
 .have hwb:(w==[])=false:=by grind
  simp only[hwb,lan,if_false]
  split
  .rename_i hc
   refine⟨h1,?_,by grind⟩;have:cur++32::w=(cur++[32])++w:=by simp
   rw[this];refine AoB (fun c hc'=>?_) (AqQ hw) h0
   rcases List.mem_append.1 hc' with hc'|hc'
   .exact h2.1.1 c hc'
   grind[A8A]
  .obtain ⟨c1,c2,c3⟩:=AoC hW _ w (lab _) hw
   refine⟨fun l hl=>?_,AqQ c2,c3⟩<;>grind[AqQ]
theorem AtX{W:Nat}(hW:0<W):∀ (ws:List LU)(st:List LU×LU),WF W st->(∀ w∈ws,AmG w)->WF W (ws.foldl (wrapS W) st)
 | [],st,h,_=>h
 | w::r,st,h,hw=>AtX hW r _ (A8B hW h (hw w (by simp))) fun v hv=>hw v (by grind)
theorem AjX{W:Nat}(hW:0<W){t:LU}(ht:∀ c∈t,AbJ c=true):∀ l∈wrapL W t,okE l/\l.length<=W/\l≠[]:=by
 have h:=AtX hW (splitW t) ([],[]) ⟨by simp,okE_nil,by simp⟩ (AjE t ht);intro l hl;unfold wrapL wrapF at hl
 split at hl
 .rcases List.mem_append.1 hl with hl|hl
  .exact h.done l hl
  .rw [List.mem_singleton.1 hl]; exact⟨h.cur.1,h.cur.2,by grind⟩
 .exact h.done l hl
theorem AtY(n:Nat):∀ c∈Lib.repeatL [32] n,AbJ c=true:=by
 intro c hc;have:c=32:=by
  induction n<;>grind[Lib.repeatL]
 grind[A8A]
theorem AoD{n:Nat}{l:LU}(h:okE l)(hne:l≠[])(hl:n+l.length<=80):LineFit (indent n l):=AwZ (AoB (AtY n) h hne) (by grind[indent_len])
def fitB(l:LU):Bool:=decide (l.length<=80)&&(!Lib.hasSuffix l [32]&&l.all AbJ)
theorem A0B{l:LU}(h:fitB l=true):LineFit l:=by
 simp only[fitB,lac,lao,lbr]at h;exact⟨h.1,h.2.1,h.2.2⟩
theorem A8C:(NameL.all fun t=>fitB (indent 20 t)&&fitB (indent 20 t++A1R))=true:=by decide +kernel
theorem A8D:(TurnL.all fun t=>fitB (turnLine t))=true:=by decide +kernel
theorem A2H:(SetL.all fun t=>t.all AbJ)=true:=by decide +kernel
theorem AtZ:([0,1,2,3].all fun p=>(AgK p).all AbJ)=true:=by decide +kernel
theorem AxA:([0,1,2,3,4,5].all fun p=>(AtF p).all AbJ)=true:=by decide +kernel
theorem A8E{c:UInt8}(h:okB c=true):AbJ c=true:=by
 grind[okB,AbJ]
structure FitB(b:Bl):Prop where
 La:∀ l∈b.La,LineFit l
 name:b.kind=3->b.name∈NameL
theorem AgF{p:Pa}(h:DrawnP p):∀ c∈p.text,AbJ c=true:=fun c hc=>by
 have hok:=h.ok
 grind[paraOk,plainL,A8E]
theorem BcZ{p:Pa}(h:DrawnP p)(hj:joins p=false):FitB (newB p):=by
 have hk:=h.kind;simp only[joins,Bool.or_eq_false_iff,lbd]at hj;unfold newB
 by_cases k1:p.kind=1
 .simp only [k1,lbi,if_true]
  refine⟨fun l hl=>?_,by simp⟩;obtain⟨a1,a2,a3⟩:=AjX (by omega) (AgF h) l hl
  grind[AwZ]
 .by_cases k5:p.kind=5
  .simp only [k5,show((5:Int)==1)=false from rfl,lbi,lan,if_false,if_true]
   refine⟨fun l hl=>?_,by simp⟩;rw[List.mem_singleton.1 hl];exact A0B (List.all_eq_true.1 A8D _ (h.turn k5))
  .have k2:p.kind=2:=by omega
   simp only[k2,show((2:Int)==1)=false from rfl,show((2:Int)==5)=false from rfl,lan,if_false];have hn:=h.name k2;have:=List.all_eq_true.1 A8C _ hn;refine⟨fun l hl=>?_,fun _=>hn⟩<;>grind[A0B]
theorem A8F{p:Pa}(h:DrawnP p){b:Bl}(hb:FitB b):FitB (moreB b p):=by
 unfold moreB addB
 split
 .refine ⟨fun l hl=>?_,hb.name⟩
  rcases List.mem_append.1 hl with hl|hl
  .exact hb.La l hl
  .obtain ⟨l',hl',rfl⟩:=List.mem_map.1 hl
   have hpl:∀ c∈asideT p.text,AbJ c=true:=fun c hc=>by
    simp only[asideT,List.mem_cons,List.mem_append,List.not_mem_nil,or_false]at hc
    rcases hc with rfl|hc|rfl
    .decide
    .grind[AgF]
    .decide
   obtain⟨a1,a2,a3⟩:=AjX (by omega) hpl l' hl'
   grind[AoD]
 .refine ⟨fun l hl=>?_,hb.name⟩
  rcases List.mem_append.1 hl with hl|hl
  .exact hb.La l hl
  .obtain ⟨l',hl',rfl⟩:=List.mem_map.1 hl
   obtain⟨a1,a2,a3⟩:=AjX (by omega) (AgF h) l' hl'
   grind[AoD]
theorem AuA:∀ (ps:List Pa)(s:List Bl×Bl),(∀ p∈ps,DrawnP p)->(∀ b∈s.1++[s.2],FitB b)->∀ b∈(ps.foldl bstep s).1++[(ps.foldl bstep s).2],FitB b
 | [],s,_,h=>h
 | p::r,s,hp,h=>by
  have h1:=hp p (by simp);refine AuA r (bstep s p) (fun q hq=>hp q (by simp[hq])) fun b hb=>?_
  unfold bstep at hb
  cases hj:joins p with
  | true =>
   rw[hj,if_pos rfl]at hb
   rcases List.mem_append.1 hb with hb|hb
   .exact h b (List.mem_append.2 (.inl hb))
   .rw [List.mem_singleton.1 hb]
    exact A8F h1 (h _ (by simp))
  | false =>
   rw[hj,if_neg (by simp)]at hb
   rcases List.mem_append.1 hb with hb|hb
   .exact h b hb
   .rw [List.mem_singleton.1 hb]
    exact BcZ h1 hj
theorem AuB{a:LU}(h:numberL a=true):∀ c∈a,AbJ c=true:=by
 intro c hc;have key:∀ n:Fin 256,(digI n.1=true\/capI n.1=true)->(!(decide (((n.1:Nat):Int)<32)||decide (((n.1:Nat):Int)>126)))=true:=by decide +kernel
 have hd:∀ c:UInt8,digB c=true\/capB c=true->AbJ c=true:=fun c h=>key ⟨c.toNat,c.toNat_lt⟩ h
 rw[AeF a]at hc
 rcases List.mem_append.1 hc with hc|hc
 .exact hd c (.inl (AtV digB a c hc))
 .exact hd c (.inr (List.all_eq_true.1 (AfY h).2.2.2 c hc))
theorem AoE{x:Sc}(h:SceneD x):∀ c∈headL x,AbJ c=true:=by
 have h2:=List.all_eq_true.1 A2H x.set h.set;have h3:(AgK x.place).all AbJ=true:=by
  have hp:=h.place
  grind[AtZ]
 have h4:(AtF x.time).all AbJ=true:=by
  have hp:=h.time
  grind[AxA]
 have hl:∀ c∈headLine x,AbJ c=true:=fun c hc=>by
  simp only[headLine,List.mem_append,List.mem_cons,List.not_mem_nil,or_false]at hc
  rcases hc with(((hc|rfl)|hc)|rfl|rfl|rfl)|hc
  .grind
  .decide
  .grind
  .decide
  .decide
  .decide
  grind
 intro c hc;unfold headL at hc
 split at hc
 .simp only [List.mem_append,List.mem_cons,List.not_mem_nil,or_false]at hc
  rcases hc with(hc|rfl)|hc
  .exact AuB (h.no.resolve_left (by grind)) c hc
  .decide
  grind
 grind
end Go.Proofs.YtccfklnmolggiaaGreatDoor
namespace Go.Av
open RowKit
variable [Tr]
section
variable {cx:Cx}{ops:Array Oper}{s:LB}{K:Env->LB->Prop}
end
section
variable {c:Cx}{k:List It}{e:Env}{s:LB}
end
end Go.Av
namespace Go.Proofs.YtccfklnmolggiaaGreatDoor
open Av RowKit
abbrev Lq:={ f:Le' // leafNameL f.name=true }
def kf(x:Lq):LU:=(endsL x.1.name).1
def kl(x y:Lq):Prop:=nLt (kf x) (kf y)
theorem BeV(x:Lq):numberL (kf x)=true:=(BcT x.2).1
theorem BdA{x y z:Lq}(h1:kl x y)(h2:kl y z):kl x z:=A7S h1 h2
theorem A8G(x:Lq):¬ kl x x:=A1X _
def le(x y:Lq):Prop:=¬ kl y x
theorem le_refl(x:Lq):le x x:=A8G x
theorem BdB{x y:Lq}(h:le x y):kl x y\/kf x=kf y:=by
 by_cases h1:kl x y
 .grind
 .exact .inr (A7T (BeV x) (BeV y) (BhQ h1 h))
theorem le_trans{x y z:Lq}(h1:le x y)(h2:le y z):le x z:=fun h=>by
 rcases BdB h1 with e1|e1
 .exact h2 (BdA h e1)
 .unfold kl at h
  rw[e1]at h;exact h2 h
end Go.Proofs.YtccfklnmolggiaaGreatDoor
namespace Go.Av
open RowKit
variable [Tr]
def junk(sz:Nat):AV:=.agg (List.replicate sz .any)
variable {c:Cx}{k:List It}{e:Env}{s:LB}
section
variable {h:Mem}{ρ:Own}{w:World}{P:Program}{a:Act}
end
end Go.Av
namespace Go.Av
open RowKit
variable [Tr]
variable {c:Cx}{k:List It}{e:Env}{s:LB}
section
variable {h:Mem}{ρ:Own}{sto:LB}{w:World}{P:Program}
end
end Go.Av
namespace Go.Proofs.YtccfklnmolggiaaGreatDoor
open Av RowKit
end Go.Proofs.YtccfklnmolggiaaGreatDoor
namespace Go.Av
open RowKit
variable [Tr]
variable {c:Cx}{k:List It}{e:Env}{s:LB}
end Go.Av
namespace Go.Proofs.YtccfklnmolggiaaGreatDoor
open Av RowKit
def AqR(ps:List (List Ln)):Nat:=match ps.getLast? with
 | some p=>54-p.length
 | none=>0
def putR(ps:List (List Ln))(l:List Ln):List (List Ln):=ps.dropLast++[ps.getLastD []++l]
theorem room_snoc(ps:List (List Ln))(p:List Ln):AqR (ps++[p])=54-p.length:=by simp[AqR]
theorem put_snoc(ps:List (List Ln))(p l:List Ln):putR (ps++[p]) l=ps++[p++l]:=by grind[putR]
def tzR(b:Bl)(fr room:Nat):Nat:=(AcD b fr (min (fr+room-grp b) b.La.length)).getD fr
def turnR(b:Bl)(fr tz:Nat)(ps:List (List Ln)):List (List Ln):=putR (putR (putR ps (partL' b fr tz)) (if b.kind==3 then[AbX] else[])++[[]]) (if b.kind==3 then[goesLn b] else[])
def fillGo(b:Bl):Nat->Nat->List (List Ln)->List (List Ln)
 | 0,_,ps=>ps
 | f+1,fr,ps=>if b.La.length-fr<=AqR ps then putR ps (b.La.drop fr) else fillGo b f (tzR b fr (AqR ps)) (turnR b fr (tzR b fr (AqR ps)) ps)
def topR(b:Bl)(need:Nat)(ps:List (List Ln)):Bool:=decide (ps=[])||decide (AqR ps<gapN b+need)
def fillR(b:Bl)(need:Nat)(ps:List (List Ln)):List (List Ln):=fillGo b (b.La.length+1) 0 (if topR b need ps then ps++[[]] else putR ps (List.replicate (gapN b) []))
theorem break_end(b:Bl)(fr:Nat)(h:fr<b.La.length):breaksL b fr b.La.length=false:=by
 grind[breaksL]
theorem A8H(b:Bl)(fr n:Nat)(h:fr<b.La.length):AcD b fr (min n b.La.length)=AcD b fr (min n (b.La.length-1)):=by
 by_cases c:n<b.La.length
 .grind
 .obtain ⟨m,hm⟩:∃ m,b.La.length=m+1:=⟨b.La.length-1,by omega⟩
  grind[break_end,AcD]
theorem AoF(b:Bl):∀ (n k j:Nat),firstB b n k=some j->breaksL b 0 j=true
 | 0,_,_,h=>by cases h
 | n+1,k,j,h=>by
  simp only[firstB]at h
  split at h
  .rename_i hb
   simp at h
   rw[<- h]; exact hb
  .exact AoF b n (k+1) j h
theorem AuC(b:Bl):∀ (n k j0:Nat),k<=j0->j0<k+n->breaksL b 0 j0=true->∃ j,firstB b n k=some j/\j<=j0
 | 0,k,j0,h1,h2,_=>by omega
 | n+1,k,j0,h1,h2,h3=>by
  simp only[firstB]
  by_cases hb:breaksL b 0 k=true
  .simp_all
  .rw [if_neg hb]
   have:k≠j0:=fun e=>by grind
   exact AuC b n (k+1) j0 (by omega) (by omega) h3
structure BrkOk(b:Bl):Prop where
 some:b.La≠[]
 least:AaH b<=54
 first:∀ room,AaH b<=room->b.La.length<=room\/∃ j,AcD b 0 (min (room-grp b) (b.La.length-1))=.some j
 next:∀ fr,0<fr->fr<b.La.length->b.La.length-fr<=54-grp b\/∃ j,AcD b fr (min (fr+(54-grp b)-grp b) (b.La.length-1))=.some j
theorem BdC{b:Bl}(h:AiR b)(h0:b.La≠[]):BrkOk b:=by
 refine⟨h0,?_,fun room hr=>?_,fun fr h1 h2=>?_⟩
 .unfold AaH
  split
  .omega
  .split
   .rename_i hk3
    simp at hk3
    rcases h with hk|⟨hk,hl,m,hm⟩|hl
    .omega
    .by_cases h21:21<=b.La.length
     .obtain ⟨j,w1,w2,w3⟩:=AwW hm (k:=19) (by omega) (by omega)
      have hb:breaksL b 0 (j+1)=true:=by
       grind[breaksL]
      obtain⟨q,hq,hq2⟩:=AuC b (b.La.length-1) 1 (j+1) (by omega) (by omega) hb
      grind
     .split
      .rename_i k hk'
       have:=AfJ b _ _ _ hk';omega
      omega
    .split
     .rename_i k hk'
      have:=AfJ b _ _ _ hk';omega
     omega
   .rename_i hn3
    rcases h with hk|⟨hk,hl,m,hm⟩|hl<;>grind
 .unfold AaH at hr
  split at hr
  .rename_i hk
   simp at hk
   by_cases hf:b.La.length<=room
   .omega
   .right
    have hb:breaksL b 0 2=true:=by
     grind[breaksL]
    grind[grp,AgE]
  .split at hr
   .rename_i hk
    simp at hk
    split at hr
    .rename_i k hk'
     by_cases hf:b.La.length<=room
     .omega
     .right
      have h1:=AlQ b _ _ _ hk';have h2:=AfJ b _ _ _ hk';have hg:grp b=1:=by grind[grp]
      obtain⟨j,hj,_⟩:=AgE (AoF b _ _ _ hk') (by omega) (min (room-grp b) (b.La.length-1)) (by omega)
      grind
    omega
   omega
 .by_cases hf:b.La.length-fr<=54-grp b
  .omega
  .right
   rcases h with hk|⟨hk,hl,m,hm⟩|hl
   .have hg:grp b=0:=by grind[grp]
    have hb:breaksL b fr (fr+50)=true:=by
     grind[breaksL]
    obtain⟨j,hj,_⟩:=AgE hb (by omega) (min (fr+(54-grp b)-grp b) (b.La.length-1)) (by omega)
    grind
   .have hg:grp b=1:=by grind[grp]
    obtain⟨q,w1,w2,w3⟩:=AwW hm (k:=fr+40) (by omega) (by omega);have hb:breaksL b fr (q+1)=true:=by
     simp only[breaksL,hk,show((3:Int)==1)=false from rfl,lbi,lan,if_false,if_true,Nat.add_sub_cancel,w3,lbn,lac,lao];omega
    obtain⟨j,hj,_⟩:=AgE hb (by omega) (min (fr+(54-grp b)-grp b) (b.La.length-1)) (by omega)
    grind
   grind[grp]
def toP(s:LS):List (List Ln):=s.Lg++[s.Lh]
def toQ(s:LS):List (List Ln):=if s.Lh=[] then s.Lg else s.Lg++[s.Lh]
theorem toP_add(s:LS)(l:List Ln):toP (addS s l)=putR (toP s) l:=by unfold toP; rw[put_snoc]; rfl
theorem A8I(b:Bl)(fr tz:Nat)(s:LS):toP (breakS b (addS s (partL' b fr tz)))=turnR b fr tz (toP s):=by
 grind[breakS,turnR,toP_add,flushS,toP]
theorem A0C(b:Bl)(s:LS):(breakS b s).Lh.length=grp b:=by
 grind[break_page,grp]
theorem place_eq{b:Bl}(hb:BrkOk b):∀ (f fr:Nat)(s:LS),b.La.length-fr<f->fr<b.La.length->s.Lh.length<=54->(fr=0->AaH b<=54-s.Lh.length)->(0<fr->s.Lh.length=grp b) ->
  toP (AbQ b f fr s)=fillGo b f fr (toP s)/\(AbQ b f fr s).Lh≠[]/\(AbQ b f fr s).Lh.length<=54
 | 0,fr,s,h,_,_,_,_=>by omega
 | f+1,fr,s,h,hfr,hl,h0,h1=>by
  have hroom:AqR (toP s)=54-s.Lh.length:=room_snoc _ _;unfold AbQ fillGo;rw[hroom];generalize hr:54-s.Lh.length=room at *
  by_cases hf:b.La.length-fr<=room
  .grind[stopL,partL',toP_add,addS]
  .have hex:∃ j,AcD b fr (min (fr+room-grp b) (b.La.length-1))=some j:=by
    by_cases z:fr=0
    .subst z
     have:=(hb.first room (h0 rfl)).resolve_left (by omega)
     grind
    .have hrm:room=54-grp b:=by omega
     subst hrm;exact(hb.next fr (by omega) hfr).resolve_left hf
   obtain⟨j,hj⟩:=hex;have hs:stopL b fr room=j:=by grind[stopL]
   have ht:tzR b fr room=j:=by grind[tzR]
   have hjl:=AjV b fr _ _ hj;rw[if_neg (by omega),if_neg hf,hs,ht,<- A8I];exact place_eq hb f j _ (by omega) (by omega) (by rw[A0C]; unfold grp; split <;> omega) (fun e=>by omega) (fun _=>A0C _ _)
theorem fill_eq{bs:List Bl}{i:Nat}{b:Bl}(hb:BrkOk b){s:LS}(hl:s.Lh.length<=54)(h0:s.Lh=[]->s.Lg=[]) :
  fillR b (AcK bs i b) (toQ s)=toQ (AbQ b (b.La.length+1) 0 (openS bs i b s))/\(AbQ b (b.La.length+1) 0 (openS bs i b s)).Lh≠[]/\(AbQ b (b.La.length+1) 0 (openS bs i b s)).Lh.length<=54 /\
  topR b (AcK bs i b) (toQ s)=decide ((turnS bs i b s).Lh=[])/\AaH b<=54-(openS bs i b s).Lh.length:=by
 have hh:AaH b<=AcK bs i b:=by grind[AcK]
 have hle:=hb.least;have hlen:0<b.La.length:=List.length_pos_iff.2 hb.some;have key:toP (openS bs i b s)=(if topR b (AcK bs i b) (toQ s) then toQ s++[[]] else putR (toQ s) (List.replicate (gapN b) []))/\(openS bs i b s).Lh.length<=54/\AaH b<=54-(openS bs i b s).Lh.length/\topR b (AcK bs i b) (toQ s)=decide ((turnS bs i b s).Lh=[]):=by
  by_cases hp:s.Lh=[]
  .have hq:toQ s=[]:=by grind[toQ]
   simp_all[turnS,openS,gapS,firstS,topR,toP]
  .have hq:toQ s=s.Lg++[s.Lh]:=by grind[toQ]
   have hpl:1<=s.Lh.length:=by
    grind
   have hne:(s.Lg++[s.Lh]=[])=False:=by simp
   have hrm:=room_snoc s.Lg s.Lh
   by_cases hc:s.Lh.length+gapN b+AcK bs i b>54
   .have ht:turnS bs i b s=flushS s:=by grind[turnS]
    have htop:topR b (AcK bs i b) (toQ s)=true:=by
     grind[topR]
    have hf1:firstS i (flushS s)={ flushS s with first:=i }:=by exact if_pos rfl
    simp_all[openS,gapS,flushS,toP]
   .have ht:turnS bs i b s=s:=by grind[turnS]
    have htop:topR b (AcK bs i b) (toQ s)=false:=by
     grind[topR]
    grind[openS,gapS,firstS,toP,put_snoc]
 grind[place_eq,fillR,toP,toQ]
theorem lay_ne{bs:List Bl}(hb:∀ b∈bs,BrkOk b):∀ i,i<=bs.length->(layTo bs i).Lh.length<=54/\((layTo bs i).Lh=[]->(layTo bs i).Lg=[])/\(0<i->(layTo bs i).Lh≠[])
 | 0,_=>⟨by simp[layTo],fun _=>rfl,fun h=>by omega⟩
 | i+1,h=>by
  obtain⟨h1,h2,_⟩:=lay_ne hb i (by omega);have hi:i<bs.length:=by omega
  simp only[layTo,lad hi];obtain⟨_,k2,k3,_,_⟩:=fill_eq (hb _ (lai hi)) h1 h2;exact⟨k3,fun e=>absurd e k2,fun _=>k2⟩
def tpR(bs:List Bl)(i:Nat):Bool:=match bs[i]? with
 | some b=>decide ((turnS bs i b (layTo bs i)).Lh=[])
 | none=>false
theorem BdD{bs:List Bl}(hb:∀ b∈bs,BrkOk b){i:Nat}(hi:i<bs.length):fillR bs[i] (AcK bs i bs[i]) (toQ (layTo bs i))=toQ (layTo bs (i+1))/\topR bs[i] (AcK bs i bs[i]) (toQ (layTo bs i))=tpR bs i:=by
 grind[lay_ne,fill_eq,layTo,tpR]
theorem BhT{bs:List Bl}:toQ (layTo bs bs.length)=(layL bs).Lg:=by
 unfold layL toQ
 by_cases h:(layTo bs bs.length).Lh=[]
 .grind
 .rw [if_neg h,if_pos h]; rfl
def stR(bs:List Bl)(i:Nat):Nat:=match bs[i]? with
 | some b=>(turnS bs i b (layTo bs i)).Lg.length
 | none=>0
theorem A2I{bs:List Bl}(hb:∀ b∈bs,BrkOk b){i:Nat}(hi:i<bs.length)(h0:bs[i].kind=0):(toQ (layTo bs (i+1))).length=stR bs i+1:=by
 obtain⟨h1,h2,_⟩:=lay_ne hb i (by omega);obtain⟨_,k2,_,_,k5⟩:=fill_eq (bs:=bs) (i:=i) (hb _ (lai hi)) h1 h2;have hle:AaH bs[i]=bs[i].La.length:=by grind[AaH]
 have hst:stopL bs[i] 0 (54-(openS bs i bs[i] (layTo bs i)).Lh.length)=bs[i].La.length:=by grind[stopL]
 have e:AbQ bs[i] (bs[i].La.length+1) 0 (openS bs i bs[i] (layTo bs i))=addS (openS bs i bs[i] (layTo bs i)) (partL' bs[i] 0 bs[i].La.length):=by
  grind[AbQ]
 grind[layTo,addS,openS,stR,gapS,firstS,toQ]
def HdOk(ss:List (List Bl)):Prop:=∀ l∈ss,∃ b r,l=b::r/\b.kind=0/\∀ d∈r,d.kind≠0
def AqS(l:List Bl)(i:Nat)(b:Bl):Nat:=AaH b+(if b.kind==0 then(match l[i+1]? with
 | some d=>1+AaH d
 | none=>0) else 0)
def hxR(ss:List (List Bl))(k:Nat):Nat:=(ss.take k).flatten.length
theorem A8J{ss:List (List Bl)}{k:Nat}(hk:k<ss.length):hxR ss (k+1)=hxR ss k+ss[k].length:=by
 grind[hxR,lal]
theorem flat_split{ss:List (List Bl)}{k:Nat}(hk:k<ss.length):ss.flatten=(ss.take k).flatten++(ss[k]++(ss.drop (k+1)).flatten):=by
 grind[lbc,List.take_append_drop]
theorem BhU{ss:List (List Bl)}{k i:Nat}(hk:k<ss.length)(hi:i<ss[k].length):ss.flatten[hxR ss k+i]? = some ss[k][i]:=by
 grind[flat_split,hxR]
theorem BhV{ss:List (List Bl)}(h:HdOk ss){k i:Nat}(hk:k<ss.length)(hi:i<ss[k].length):AcK ss.flatten (hxR ss k+i) ss[k][i]=AqS ss[k] i ss[k][i]:=by
 unfold AcK AqS
 split
 .have hn:ss.flatten[hxR ss k+i+1]? = (ss[k]++(ss.drop (k+1)).flatten)[i+1]?:=by
   grind[flat_split,hxR]
  rw[hn]
  by_cases h1:i+1<ss[k].length
  .obtain ⟨b,r,e,_,hr⟩:=h _ (lai hk)
   grind
  .rw [lay (by omega),List.getElem?_eq_none (show ss[k].length<=i+1 by omega)]
   cases hq:ss.drop (k+1)with
   | nil=>rfl
   | cons l r =>
    have hm:l∈ss:=lbe (i:=k+1) (by grind);obtain⟨b,r',e,hb,_⟩:=h l hm
    grind
 .rfl
def HdK(l:List Int):Prop:=∃ r,l=0::r/\∀ k∈r,k≠0
theorem BdE(p:Pa):(newB p).kind≠0:=by
 grind[newB]
theorem A0D:∀ (ps:List Pa)(s:List Bl×Bl),HdK ((s.1++[s.2]).map (·.kind))->HdK (((ps.foldl bstep s).1++[(ps.foldl bstep s).2]).map (·.kind))
 | [],s,h=>h
 | p::r,s,h=>by
  refine A0D r (bstep s p) ?_;unfold bstep
  split
  .simpa [AiL]using h
  .obtain ⟨q,e,hq⟩:=h
   refine⟨q++[(newB p).kind],?_,fun k hk=>?_⟩
   .rw [lap,e]; rfl
   .rcases List.mem_append.1 hk with hk|hk
    .exact hq k hk
    .rw [List.mem_singleton.1 hk]; exact BdE p
theorem AmH:∀ t,∃ w ws,splitW t=w::ws
 | []=>⟨[],[],rfl⟩
 | c::r=>by
  simp only[splitW]
  split
  .grind
  .cases splitW r with
   | nil=>exact⟨_,_,rfl⟩
   | cons w ws=>exact⟨_,_,rfl⟩
theorem AuD:∀ (t cur:LU)(w:LU)(ws:List LU),splitW t=w::ws->(∀ c∈t,Lib.isSp c=(c==32))->Lib.fieldsGo cur t=((cur++w)::ws).filter (· != [])
 | [],cur,w,ws,h,_=>by
  grind[splitW,Lib.fieldsGo]
 | c::r,cur,w,ws,h,hc=>by
  obtain⟨w',ws',hr⟩:=AmH r;have ih:=fun cur=>AuD r cur w' ws' hr (fun x hx=>hc x (by simp[hx]))
  have h1:=hc c (by simp);simp only[Lib.fieldsGo,h1];simp only[splitW]at h
  by_cases h32:c=32
  .have e:(c==32)=true:=by simpa using h32
   rw[e]at h |-;obtain⟨rfl,rfl⟩:=h;rw[hr,ih []]
   cases cur <;> simp
  .have e:(c==32)=false:=by simpa using h32
   rw[e]at h |-
   simp at h |-
   rw[hr]at h;obtain⟨rfl,rfl⟩:=h;rw[ih]
   simp
def spOk(t:LU):Prop:=∀ c∈t,Lib.isSp c=(c==32)
theorem fields_split{t:LU}(h:spOk t):Lib.fields t=(splitW t).filter (· != []):=by
 obtain⟨w,ws,hs⟩:=AmH t;have:=AuD t [] w ws hs h
 grind[Lib.fields]
theorem fold_filter{W:Nat}:∀ (l:List LU)(s:List LU×LU),(l.filter (· != [])).foldl (wrapS W) s=l.foldl (wrapS W) s
 | [],s=>rfl
 | w::r,s=>by
  by_cases h:w=[]
  .subst h
   have:wrapS W s []=s:=by simp[wrapS]
   simp[fold_filter r,this]
  .have hb:(w != [])=true:=by simpa using h
   simp[List.filter_cons,hb,fold_filter r]
def wsR(W:Nat)(ws:List LU)(j:Nat):List LU×LU:=(ws.take j).foldl (wrapS W) ([],[])
def outW(s:List LU×LU):List LU:=if s.2=[] then s.1 else s.1++[s.2]
theorem BdF{W:Nat}{t:LU}(h:spOk t):wrapL W t=outW (wsR W (Lib.fields t) (Lib.fields t).length):=by
 grind[wsR,wrapF,fields_split,fold_filter,wrapL,outW]
theorem A0E{W:Nat}{ws:List LU}{j:Nat}(h:j<ws.length):wsR W ws (j+1)=wrapS W (wsR W ws j) ws[j]:=by
 grind[wsR,lal]
theorem A8K{t:LU}(h:spOk t):∀ w∈Lib.fields t,w≠[]:=by grind[fields_split]
theorem wrapS_ne{W:Nat}(hW:0<W)(s:List LU×LU){w:LU}(h:w≠[]):(wrapS W s w).2≠[]:=by
 unfold wrapS;rw[if_neg (by grind)]
 split
 .simp
 .exact (AqP hW w.length w (lab _)).2.2.1 h
theorem A8L{W M:Nat}{ws:List LU}(h:∀ w∈ws,w.length<=M):∀ j,j<=ws.length->(wsR W ws j).1.length+(wsR W ws j).2.length<=j*(M+1)
 | 0,_=>by simp[wsR]
 | j+1,hj=>by
  have ih:=A8L (W:=W) h j (by omega);have:=AsU W (wsR W ws j) ws[j]
  grind[A0E]
theorem BdG(s:List LU×LU):(outW s).length<=s.1.length+s.2.length:=by
 grind[outW,List.length_pos_iff]
theorem BdH{W:Nat}(hW:0<W)(s:List LU×LU){w:LU}(h:w≠[]) :
  outW (wrapS W s w)=if s.2≠[]/\s.2.length+1+w.length<=W then s.1++[s.2++32::w] else outW s++(chop W w).1++[(chop W w).2]:=by
 grind[wrapS_ne,outW,wrapS]
end Go.Proofs.YtccfklnmolggiaaGreatDoor
namespace Go.Av
open RowKit
variable [Tr]
def isApp:Op->Bool
 | .call c=>match c.callee with
  | .builtin .append=>true
  | _=>false
 | _=>false
def appOk(id:Nat)(e:Env):Op->Bool
 | .call c=>match c.args.toList with
  | x::_=>match ev e x with
   | .sl i _ _ _=>i==id
   | _=>true
  | []=>true
 | _=>true
theorem xapp_sto{P:Program}{sto s3:LB}{dst src w:AV}{tx td:Option TypeDesc}{p:Prop}(h:xapp P sto dst src tx td=.sto p w s3) :
  (∃ b,s3=sto++[b])\/∃ i o l c b,dst=.sl i o l c/\s3=sto.set i b:=by
 have hB:∀ {id off len cap sz bytes z L q b},A3B sto id off len cap sz bytes z L q b=.sto p w s3->∃ b',s3=sto.set id b':=by
  intro id off len cap sz bytes z L q b h;unfold A3B at h
  grind
 unfold xapp at h
 split at h
 .cases h1:AnE tx <;> rw[h1]at h <;> simp at h
  .cases h2:isI tx <;> rw[h2]at h <;> simp only[lav,lba]at h
   .cases h
   .unfold A9V at h
    grind
  .unfold A9U at h
   split at h
   .unfold A9T at h
    grind
   grind
 grind
theorem Agr.refl{n id:Nat}{s:LB}:Agr n id s s:=fun _ _ _=>rfl
theorem A8M{c:Cx}{ops:Array Oper}{s s1:LB}{o:Oper}{cv v:AV}{e:Env}{id:Nat}(ha:isApp o.op=true)(hk:appOk id e o.op=true)(h:Does c ops s o cv e v s1):Agr s.length id s s1/\s.length<=s1.length:=by
 have hd:DoesOp c s o cv e v s1->Agr s.length id s s1/\s.length<=s1.length:=by
  intro h;unfold DoesOp at h
  split at h <;> rename_i hq
  .grind[Agr.refl]
  .grind[Agr.refl]
  .simp only [isApp]at ha
   split at ha <;> try(cases ha; done)
   rename_i hcl;simp only[xop,hcl]at hq;unfold A0L at hq
   grind[appOk,xapp_sto,Agr.push,Agr.set]
  all_goals grind[Agr.refl]
 grind[Does,Agr.refl]
theorem AxB{id:Nat}{e e':Env}{op:Op}(h:∀ x∈op.operands,ev e x=ev e' x):appOk id e op=appOk id e' op:=by
 unfold appOk
 cases op <;> try rfl
 rename_i c;simp only
 cases hc:c.args.toList with
 | nil=>rfl
 | cons x r =>
  have hm:x∈(Op.call c).operands:=by
   have:x∈c.args:=by
    rw[<- Array.mem_toList_iff,hc]; simp
   grind[Op.operands,Go.Call.operands]
  grind
section
variable {cx:Cx}{ops:Array Oper}{K:Env->LB->Prop}{id:Nat}
end
section
variable {c:Cx}{k:List It}{e:Env}{s:LB}
end
end Go.Av
namespace Go.Av
open RowKit
variable [Tr]
def ckb(n0 id:Nat)(i:Nat)(e:Env)(s:LB)(o:Oper):Prop :=
 (bif isApp o.op then appOk id e o.op=true/\n0<=s.length else True)/\(bif reader o.op&&!blind o.op then opOk n0 id e o.op=true else True)
theorem AmI{n0 id i:Nat}{e e':Env}{s s':LB}{o:Oper}(h:∀ x∈o.op.operands,ev e x=ev e' x)(hs:isApp o.op=true->n0<=s'.length)(hp:ckb n0 id i e s o):ckb n0 id i e' s' o:=by
 refine⟨?_,?_⟩
 .have h1:=hp.1
  grind[AxB]
 .have h2:=hp.2
  grind[opOk_agree]
theorem AxC{n0 id i:Nat}{e:Env}{s:LB}{o:Oper}(hp:ckb n0 id i e s o)(ha:isApp o.op=true):n0<=s.length:=by
 have:=hp.1
 grind
def ChB(c:Cx)(ops:Array Oper)(n0 id:Nat)(K:Env->LB->Prop):List Nat->Env->LB->Prop
 | [],e,s=>K e s
 | i::r,e,s=>match ops[i]? with
  | some o=>ckb n0 id i e s o/\∃ cv v s',Does c ops s o cv e v s'/\ChB c ops n0 id K r (put e o.dst v) s'
  | none=>False
def okAq(ops:List Oper)(j i:Nat):Bool:=match ops[j]?,ops[i]? with
 | some oj,some oi=>oj.apart ops.toArray oi&&(together oj oi||(reader oj.op&&isApp oi.op)||(isApp oj.op&&reader oi.op))
 | _,_=>false
theorem AuE{op:Op}(h:blind op=true):isApp op=false:=by
 cases op<;>grind[blind,isApp]
section
variable {cx:Cx}{ops:Array Oper}{K:Env->LB->Prop}{n0 id:Nat}
theorem ChB.congr(hK:∀ e e' s,Eqv e e'->K e s->K e' s):∀ {l:List Nat}{e e':Env}{s:LB},Eqv e e'->ChB cx ops n0 id K l e s->ChB cx ops n0 id K l e' s
 | [],e,e',s,h,c=>hK e e' s h c
 | i::r,e,e',s,h,c=>by
  unfold ChB at c |-
  split at c
  .obtain ⟨h0,cv,v,s',h1,h2⟩:=c
   exact⟨AmI (fun x _=>AhA fun t _=>h t) (fun ha=>AxC h0 ha) h0,cv,v,s',h1.agree fun t _=>h t,ChB.congr hK (h.put _ _) h2⟩
  .exact c.elim
theorem ChB.swap{opl:List Oper}(hops:ops=opl.toArray)(hK:∀ e e' s,Eqv e e'->K e s->K e' s){i j:Nat}{r:List Nat}(hok:okAq opl j i=true){e:Env}{s:LB}(c:ChB cx ops n0 id K (j::i::r) e s) :
  ChB cx ops n0 id K (i::j::r) e s:=by
 unfold okAq at hok
 split at hok
 rotate_left
 .grind
 rename_i oj oi hj' hi';have hj:ops[j]? = some oj:=by grind
 have hi:ops[i]? = some oi:=by grind
 simp at hok
 obtain⟨ha,hok⟩:=hok;obtain⟨a1,a2,a3⟩:=Oper.apart_spec ha;simp only[ChB,hj,hi]at c |-;obtain⟨pj,cv,v,s1,h1,pi,cu,u,s2,h2,h3⟩:=c;have gi:∀ (e:Env) (v:AV),AkS ops oi (put e oj.dst v) e:=fun e v t ht=>by
  grind[get_put]
 have gj:∀ (e:Env) (v:AV),AkS ops oj e (put e oi.dst v):=fun e v t ht=>by
  grind[get_put]
 have h2':=h2.agree (gi e v);have h1':∀ {z z'},Does cx ops z oj cv e v z'->Does cx ops z oj cv (put e oi.dst u) v z':=fun hd=>hd.agree (gj e u)
 have h3':=ChB.congr hK (ApP a2) h3;have pi':∀ s',(isApp oi.op=true->n0<=s'.length)->ckb n0 id i e s' oi:=fun s' hs=>AmI (AaN (gi e v)) hs pi
 have pj':∀ s',(isApp oj.op=true->n0<=s'.length)->ckb n0 id j (put e oi.dst u) s' oj:=fun s' hs=>AmI (AaN (gj e u)) hs pj
 have lj:=fun ha=>AxC pj ha
 have li:=fun ha=>AxC pi ha
 rcases hok with(hok|hok)|hok
 .simp only [together,lbj,lac]at hok
  rcases hok with(⟨c1,c2⟩|c1)|c1
  .have e1:=h1.calm c1
   subst e1;have e2:=h2.calm c2
   grind
  .have e1:=h1.calm (blind_calm c1)
   subst e1;exact⟨pi' _ li,cu,u,_,h2',pj' _ (fun ha=>by grind[AuE]),cv,v,_,h1' (h1.blind c1),h3'⟩
  .have e2:=h2.calm (blind_calm c1)
   subst e2;exact⟨pi' _ (fun ha=>by grind[AuE]),cu,u,_,h2'.blind c1,pj' _ lj,cv,v,_,h1' h1,h3'⟩
 .obtain ⟨hr,hap⟩:=hok
  have e1:=h1.calm (reader_calm hr);subst e1;have pis:=pi' _ li;have hk:appOk id e oi.op=true:=by have:=pis.1; grind
  obtain⟨hag,hle⟩:=A8M hap hk h2';have hn:=li hap;have ok0:blind oj.op=false->opOk n0 id e oj.op=true:=fun hb=>by have:=pj.2; grind
  have hag':Agr n0 id s1 s2:=fun q hq hne=>hag q (by omega) hne
  exact⟨pis,cu,u,_,h2',pj' _ (fun _=>by omega),cv,v,_,h1' (AaR hr ok0 hag' h1).2,h3'⟩
 .obtain ⟨hap,hr⟩:=hok
  have e2:=h2.calm (reader_calm hr);subst e2;have hk:appOk id e oj.op=true:=by have:=pj.1; grind
  obtain⟨hag,hle⟩:=A8M hap hk h1;have hn:=lj hap;have pis:=pi' s (fun ha=>hn);have ok0:blind oi.op=false->opOk n0 id e oi.op=true:=fun hb=>by have:=pis.2; grind
  have hag':Agr n0 id s2 s:=fun q hq hne=>(hag q (by omega) hne).symm
  exact⟨pis,cu,u,_,(AaR hr ok0 hag' h2').2,pj' s (fun _=>hn),cv,v,_,h1' h1,h3'⟩
theorem ChB.front{opl:List Oper}(hops:ops=opl.toArray)(hK:∀ e e' s,Eqv e e'->K e s->K e' s){i:Nat}{r:List Nat}:∀ {l:List Nat}{e:Env}{s:LB},(∀ j∈l,okAq opl j i=true) ->
  ChB cx ops n0 id K (l++i::r) e s->ChB cx ops n0 id K (i::(l++r)) e s
 | [],_,_,_,c=>c
 | j::l,e,s,h,c=>by
  refine ChB.swap hops hK (h j (by simp)) ?_;simp only[las,ChB]at c |-
  split at c
  .obtain ⟨h0,cv,v,s',h1,h2⟩:=c
   exact⟨h0,cv,v,s',h1,ChB.front hops hK (fun k hk=>h k (by simp[hk])) h2⟩
  .exact c.elim
end
section
variable {c:Cx}{k:List It}{e:Env}{s:LB}
theorem AoG{all:List Oper}{n0 id:Nat}:∀ {r:List Oper}{m n:Nat}{cs:LY}{e:Env}{s:LB},(∀ (j:Nat),r[j]? = all[m+j]?)->all.length=m+r.length->dxg c all (ckb n0 id) k n r cs e s->ChB c all.toArray n0 id (fun e s=>AWp c k e s) (List.range' m r.length) e s
 | [],m,n,cs,e,s,_,_,h=>by
  rw[dxg]at h;exact h
 | o::r,m,n,cs,e,s,hr,hlen,h=>by
  obtain⟨h0,cv,v,n',cs',s',h1,h2⟩:=BbG h;have hat:all.toArray[m]? = some o:=by have:=hr 0; simpa using this.symm
  simp only[laf,List.range'_succ,ChB,hat];exact⟨h0,cv,v,s',h1,AoG (fun j=>by have:=hr (j+1); simpa[Nat.add_assoc,Nat.add_comm 1 j]using this) (by simp at hlen; omega) h2⟩
theorem A8N(bid:Nat)(cs:LY){id:Nat}{ops:List Oper}(hm:c.P.follows .mixedOrders=true)(hok:AgQ (okAq ops) ops=true){N:Nat}(hN:c.fn.ntmps=N)(hdst:ops.all (fun o=>dOk N o.dst)=true)(n:Nat)
  (h:dxg c ops (ckb s.length bid) k n ops cs e s):AWp c (.code (.region id ops.toArray true)::k) e s:=by
 intro a w hsim;obtain⟨n1,hn1⟩:∃ n1,n1=s.length:=⟨_,rfl⟩;rw[<- hn1]at h;have hch:=AoG (m:=0) (by grind) (by simp) h;rw[<- List.range_eq_range']at hch;refine wp_region_any hm ?_;have hsim':Sim c e s a { w with drawn:=w.drawn+1 }:=by
  obtain⟨hh,ρ,hmm,hl,he,hdf,hsz,hX⟩:=hsim;have sm:=Same.drew w;exact⟨hh,ρ,hmm.same sm,hl.trans (Later.same sm),he,hdf,hsz,c.hx.later hmm (Later.same sm) hX⟩
 have hd:∀ o∈ops,dOk c.fn.ntmps o.dst=true:=fun o ho=>by grind
 refine AiF (ChB c ops.toArray n1 bid (fun e s=>AWp c k e s)) hok (fun e s x=>x) (fun l i r e s hj x=>ChB.front rfl AWp.K hj x)
  (fun i o r e s a w Kc ho x hs hK=>?_)
  ops.length (Array.replicate ops.length false) (List.range ops.length) e s a _ (by simp) ?_ (by simp) ?_ hch hsim'
 .have ho':ops.toArray[i]? = some o:=by grind
  simp only[ChB,ho']at x;obtain⟨_,cv,v,s',h1,h2⟩:=x;exact AkU hs (hd o (laj ho)) h1 fun a w hs'=>hK _ _ a w h2 hs'
 .symm
  simp_all
 .intro i hi j hj
  by_cases h1:i<ops.length
  all_goals simp_all[waits]
end
