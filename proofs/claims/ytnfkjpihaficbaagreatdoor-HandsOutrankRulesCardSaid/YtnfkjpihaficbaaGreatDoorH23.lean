/- The same state told with the first blocks alone. Own work of this seat. -/
import Derived.Test.YtnfkjpihaficbaaGreatDoorH22
import Derived.Lib.AtoiErrMem
import Derived.Lib.AppendIntMem
set_option linter.unusedSimpArgs false
set_option linter.unusedVariables false
set_option linter.unusedSectionVars false
namespace Go.Av
open Go Go.RowKit
variable [Tr]
def lowC (n:Nat):AV→Bool
 | .sl m _ _ _=>decide (m < n)
 | .ptr m _ _ _=>decide (m < n)
 | .mp m=>decide (m < n)
 | v=>frozen v
def lowV (n:Nat):AV→Bool
 | .agg r=>r.all (lowC n)
 | .fn _ r=>r.all (lowC n)
 | v=>lowC n v
def lowB (n:Nat):Blk→Bool
 | .arr _ l=>(flat l).all (lowC n)
 | .mp es=>es.all fun x=>lowV n x.2
 | .it mid _ _=>decide (mid < n)
 | .dead=>true
def wkl (n:Nat) (e:Env):Env→Prop
 | []=>True
 | (t,v) :: r=>(lowV n v=true∧get e t=v)∧wkl n e r
def lowρ (ρ:Own) (n:Nat):Own:=fun i=>if i < n then ρ i else none
theorem low_of_frozen {n:Nat} {v:AV} (h:frozen v=true):lowC n v=true:=by
 cases v <;> first | exact h | (simp [frozen] at h)
theorem low_all {n:Nat} {l:List AV} (h:l.all frozen=true):l.all (lowC n)=true:=by
 rw [List.all_eq_true] at h ⊢
 exact fun x hx=>low_of_frozen (h x hx)
section
variable {h:Mem} {ρ:Own} {s:List Blk} {w:World} {n:Nat}
theorem LfC_low (hn:n ≤ s.length) {v:Value} {a:AV} (hl:lowC n a=true) (l:LfC ρ s v a):LfC (lowρ ρ n) (s.take n) v a:=by
 cases a with
 | sl i o x cp =>
  have hi:i < n:=of_decide_eq_true hl
  simp only [LfC,List.getElem?_take,hi,if_true,lowρ] at l ⊢; exact l
 | ptr i m j o =>
  have hi:i < n:=of_decide_eq_true hl
  simp only [LfC,List.getElem?_take,hi,if_true,lowρ] at l ⊢; exact l
 | mp i =>
  have hi:i < n:=of_decide_eq_true hl
  simp only [LfC,List.getElem?_take,hi,if_true,lowρ] at l ⊢; exact l
 | _=>exact l.elim
theorem low_one (hn:n ≤ s.length) {v:Value} {a:AV} (hl:lowC n a=true) (r:RV h (Lf ρ s) false v a):RV h (Lf (lowρ ρ n) (s.take n)) false v a:=by
 have frz:frozen a=true→RV h (Lf (lowρ ρ n) (s.take n)) false v a:=fun hf=>(frz_one r hf).thaw (fun _ _ _ x=>x)
 cases a with
 | sl i o x cp=>exact .leaf ⟨(inv_sl r).1,LfC_low hn hl (inv_sl r).2⟩
 | ptr i m j o=>exact .leaf ⟨(inv_ptr r).1,LfC_low hn hl (inv_ptr r).2⟩
 | mp i=>exact .leaf ⟨(inv_mp r).1,LfC_low hn hl (inv_mp r).2⟩
 | _=>exact frz hl
theorem low_list (hn:n ≤ s.length):∀ {l:List AV} {vs:List Value},l.all (lowC n)=true→RL h (Lf ρ s) false vs l→RL h (Lf (lowρ ρ n) (s.take n)) false vs l
 | [],_,_,r=>by cases r; exact .nil
 | a :: l,_,hl,r=>by
  simp only [List.all_cons,Bool.and_eq_true] at hl
  cases r with | cons r1 r2=>exact .cons (low_one hn hl.1 r1) (low_list hn hl.2 r2)
theorem low_val (hn:n ≤ s.length) {u:Value} {y:AV} (h1:lowV n y=true) (hx:RV h (Lf ρ s) false u y):RV h (Lf (lowρ ρ n) (s.take n)) false u y:=by
 cases y with
 | agg r =>
  obtain ⟨vs,rfl,rl⟩:=inv_agg hx
  exact .agg vs r (low_list hn h1 rl)
 | fn f r =>
  cases hx with
  | leaf p=>exact p.2.elim
  | fn _ vs _ rl=>exact .fn f vs r (low_list hn h1 rl)
 | _=>exact low_one hn h1 hx
theorem Mine.low (m:Mine h ρ s w) (hn:n ≤ s.length) (hb:(s.take n).all (lowB n)=true):Mine h (lowρ ρ n) (s.take n) w:=by
 have hρ:∀ i g t,lowρ ρ n i=some (g,t)→i < n∧ρ i=some (g,t):=by
  intro i g t e
  unfold lowρ at e
  split at e
  ·exact ⟨by assumption,e⟩
  ·cases e
 refine ⟨m.mem,?_,?_,?_,?_⟩
 ·intro i b e
  have hi:i < n:=by
   have:=(List.getElem?_eq_some_iff.1 e).1
   simp at this; omega
  have hlow:lowB n b=true:=List.all_eq_true.1 hb b (List.mem_of_getElem? e)
  rw [List.getElem?_take,if_pos hi] at e
  have o:=m.own i b e
  have hρi:lowρ ρ n i=ρ i:=by simp [lowρ,hi]
  cases b with
  | arr es l =>
   rcases o with ⟨h1,h2⟩ | ⟨g,tot,cur,t,h1,h2,h3,h4,h5,h6,h7,h8,h9⟩
   ·exact .inl ⟨h1,hρi.trans h2⟩
   ·exact .inr ⟨g,tot,cur,t,hρi.trans h1,h2,h3,h4,h5,h6,h7,h8,low_list hn hlow h9⟩
  | mp es =>
   obtain ⟨g,en,cl,h1,h2,h3,h4,h5⟩:=o
   refine ⟨g,en,cl,hρi.trans h1,h2,h3,fun k x y hx hy=>?_,h5⟩
   obtain ⟨p,q⟩:=h4 k x y hx hy
   simp only [lowB,List.all_eq_true] at hlow
   have:=hlow x (lvs_mem (List.mem_of_getElem? hx))
   exact ⟨p.thaw (fun _ _ _ x=>x),low_val hn this q⟩
  | it mid k seen =>
   obtain ⟨g,gm,h1,h2,h3,h4⟩:=o
   exact ⟨g,gm,hρi.trans h1,h2,⟨h3.1,LfC_low hn (a:=.mp mid) hlow h3.2⟩,h4⟩
  | dead=>exact hρi.trans o
 ·intro i hi
  have:¬ i < n:=by simp at hi; omega
  simp [lowρ,this]
 ·intro i j g t t' hi hj
  exact m.inj i j g t t' (hρ i g t hi).2 (hρ j g t' hj).2
 ·intro i g t e
  exact m.disj i g t (hρ i g t e).2
end
variable {c:Cx} {e:Env} {s:List Blk}
theorem wkl_get {n:Nat} {e e':Env} (h:wkl n e e') (t:Nat):get e' t=.any∨(lowV n (get e' t)=true∧get e t=get e' t):=by
 induction e' with
 | nil=>exact .inl rfl
 | cons x r ih =>
  obtain ⟨k,v⟩:=x
  simp only [get]
  by_cases hk:k=t
  ·subst hk; simp; exact .inr h.1
  ·have:(k == t)=false:=by simpa using hk
   simp only [this,cond_false]
   exact ih h.2
theorem Shift.low (n:Nat) {e':Env} (hc:c.sto.length ≤ n) (hn:n ≤ s.length) (hb:(s.take n).all (lowB n)=true) (hw:wkl n e e'):Shift c e s e' (s.take n):=by
 rintro a w ⟨hh,ρ,hm,hlt,he,hdf,hsz,hX⟩
 have low:∀ v x,Lf c.ρ c.sto v x→Lf (lowρ ρ n) (s.take n) v x:=by
  intro v x lf
  have l2:=hlt.keep v x lf
  refine ⟨lf.1,LfC_low hn ?_ l2.2⟩
  have hx:=lf.2
  cases x <;> simp only [LfC] at hx
  ·rename_i i o l cp
   cases hq:c.sto[i]? with
   | none=>simp [hq] at hx
   | some y=>exact decide_eq_true (Nat.lt_of_lt_of_le (List.getElem?_eq_some_iff.1 hq).1 hc)
  ·rename_i i n j o
   cases hq:c.sto[i]? with
   | none=>simp [hq] at hx
   | some y=>exact decide_eq_true (Nat.lt_of_lt_of_le (List.getElem?_eq_some_iff.1 hq).1 hc)
  ·rename_i i
   cases hq:c.sto[i]? with
   | none=>simp [hq] at hx
   | some y=>exact decide_eq_true (Nat.lt_of_lt_of_le (List.getElem?_eq_some_iff.1 hq).1 hc)
 have hρ:∀ i g t,lowρ ρ n i=some (g,t)→ρ i=some (g,t):=by
  intro i g t e
  unfold lowρ at e
  split at e
  ·exact e
  ·cases e
 refine ⟨hh,lowρ ρ n,hm.low hn hb,⟨hlt.hle,hlt.hnew,low,hlt.os,hlt.tape,hlt.output,hlt.size,hlt.block,fun i g t hi=>hlt.newown i g t (hρ i g t hi)⟩,fun t=>?_,hdf,hsz,c.hx.fewer (fun i g t hi=>⟨i,t,hρ i g t hi⟩) hX⟩
 have hx:=he t
 rcases wkl_get hw t with hq | ⟨h1,hq⟩
 ·rw [hq]; exact .any _
 ·rw [hq] at hx
  generalize Av.get e' t=y at h1 hx ⊢
  cases y with
  | agg r =>
   obtain ⟨vs,hv,rl⟩:=inv_agg hx
   rw [hv]
   exact .agg vs r (low_list hn h1 rl)
  | fn f r =>
   generalize a.tmps.getD t undef=u at hx ⊢
   cases hx with
   | leaf p=>exact p.2.elim
   | fn _ vs _ rl=>exact .fn f vs r (low_list hn h1 rl)
  | _=>exact low_one hn h1 hx
end Go.Av
set_option maxRecDepth 100000
namespace Go.Proofs.YtnfkjpihaficbaaGreatDoor
open Go Go.Av Go.RowKit
def TitleL:List (List UInt8):=[[84],[84,104,101,32,77,105,108,108],[65,32,45,32,66]]
structure DrawnR (x:Sr):Prop where
 title:x.title ∈ TitleL
 len:x.scenes.length ≤ 5
 all:∀ y ∈ x.scenes,DrawnS y
 first:∀ y,x.scenes.head? = some y→y.time ≠ 5
theorem frozen_scenes (ps:List Sc):(flat (ps.map scA)).all Av.frozen=true:=by
 induction ps with
 | nil=>rfl
 | cons y l ih=>simpa [flat,cellsOf,scA,Av.frozen] using ih
end Go.Proofs.YtnfkjpihaficbaaGreatDoor
namespace Go.Av
open Go Go.RowKit
variable [Tr]
variable {c:Cx} {e:Env} {s:List Blk}
theorem Shift.reserve (es:Nat):Shift c e s e (s++[.arr es []]):=by
 rintro a w ⟨hh,ρ,hm,hlt,he,hdf,hsz,hX⟩
 obtain ⟨m',l'⟩:=hm.pushNil es
 exact ⟨hh,ρ,m',hlt.trans l',fun t=>(he t).mono l'.hle l'.keep,hdf,hsz,c.hx.later hm l' hX⟩
theorem rl_frozen {h:Mem} {ρ ρ':Own} {s s':List Blk} {vs:List Value} {l:List AV} (hf:l.all frozen=true) (r:RL h (Lf ρ s) false vs l):RL h (Lf ρ' s') false vs l :=
 (frz_all r hf).thaw (fun _ _ _ x=>x)
theorem icall_new {f:FuncId} {args:List AV} {n es:Nat} {l:List AV} {K:AV→List Blk→Prop} (hc:Ct c.P f args [] (fun r s=>r=.sl 0 0 n n∧s=[.arr es l])) (hn:0 < n) (hlen:l.length=n) (ha:args.all frozen=true) (hf:(flat l).all frozen=true)
  {id:Nat} (hid:s[id]? = some (.arr es [])) (hk:K (.sl id 0 n n) (s.set id (.arr es l))):ICall c f args id s K:=by
 refine ⟨_,fun r b=>r=.sl id 0 n n∧b=.arr es l,hid,⟨hc.1,fun h ρ s w vs hs m lt0 r=>?_⟩,⟨_,_,rfl,rfl⟩,fun r b ⟨h1,h2⟩=>by rw [h1,h2]; exact hk⟩
 have hidl:=(List.getElem?_eq_some_iff.1 hs).1
 have hm0:Mine h (fun _=>none) [] w:=⟨m.mem,fun id blk e=>by simp at e,fun _ _=>rfl,fun i j g t t' e=>by simp at e,fun i g t e=>by simp at e⟩
 refine (hc.2 h (fun _=>none) w vs hm0 (rl_frozen ha r)).mono ?_
 rintro en w' ⟨v,r,s1,h',ρ1,rfl,⟨rfl,rfl⟩,m',lt,rv⟩
 have hne:l ≠ []:=by intro h; rw [h] at hlen; simp at hlen; omega
 have hgood:∀ i g t,ρ1 i=some (g,t)→w.heap.size ≤ g:=fun i g t e=>by
  rcases lt.newown i g t e with ⟨j,t',hj⟩ | h
  ·cases hj
  ·exact h
 have hblk:∀ k,k < w.heap.size→w'.heap[k]? = w.heap[k]?:=fun k hk=>lt.block k hk (fun i t e=>by cases e)
 have hnew:∀ b o,h b o=none→h' b o ≠ none→w.heap.size ≤ b:=fun b o e n=>by
  rcases lt.hnew b o e n with ⟨j,t',hj⟩ | h
  ·cases hj
  ·exact h
 have hρ:∀ i,i ≠ id→upd ρ id (ρ1 0) i=ρ i:=fun i hi=>by simp [upd,hi]
 have hρi:upd ρ id (ρ1 0) id=ρ1 0:=by simp [upd]
 have hkeep:∀ v a,Lf ρ s v a→Lf (upd ρ id (ρ1 0)) (s.set id (.arr es l)) v a:=fun v a x=>⟨x.1,LfC_set (b':=.arr es l) hs hρ (Or.inr (by
  rw [hlen]; exact hn)) x.2⟩
 have hown:∀ i g t,upd ρ id (ρ1 0) i=some (g,t)→(i ≠ id∧ρ i=some (g,t)∧g < w.heap.size)∨(i=id∧ρ1 0=some (g,t)∧w.heap.size ≤ g):=fun i g t e=>by
  by_cases hi:i=id
  ·rw [hi,hρi] at e
   exact .inr ⟨hi,e,hgood 0 g t e⟩
  ·rw [hρ i hi] at e
   exact .inl ⟨hi,e,m.lt e⟩
 refine ⟨v,_,_,h',upd ρ id (ρ1 0),rfl,⟨rfl,rfl⟩,⟨m'.mem,?_,?_,?_,?_⟩,⟨lt.hle,fun b o e n=>.inr (hnew b o e n),hkeep,lt.os,lt.tape,lt.output,lt.size,fun k hk _=>hblk k hk,?_⟩,?_⟩
 ·intro i blk e
  by_cases hi:i=id
  ·subst hi
   simp [hidl] at e
   subst e
   rcases m'.own 0 (.arr es l) rfl with ⟨h1,h2⟩ | ⟨g,tot,cur,t,h1,h2,h3,h4,h5,h6,h7,h8,h9⟩
   ·exact (hne h1).elim
   ·exact .inr ⟨g,tot,cur,t,hρi.trans h1,h2,h3,h4,h5,h6,h7,h8,rl_frozen hf h9⟩
  ·rw [List.getElem?_set_ne (Ne.symm hi)] at e
   exact (m.own i blk e).mono lt.hle hkeep (hρ i hi) (fun g t hg=>hblk g (m.lt hg))
 ·intro i hi
  simp at hi
  rw [hρ i (by omega)]
  exact m.out i hi
 ·intro i j g t t' hi hj
  rcases hown i g t hi with ⟨a1,a2,a3⟩ | ⟨a1,a2,a3⟩ <;> rcases hown j g t' hj with ⟨b1,b2,b3⟩ | ⟨b1,b2,b3⟩
  ·exact m.inj i j g t t' a2 b2
  ·omega
  ·omega
  ·omega
 ·intro i g t e o
  rcases hown i g t e with ⟨a1,a2,a3⟩ | ⟨a1,a2,a3⟩
  ·cases hq:h' g o with
   | none=>rfl
   | some z =>
    have:=hnew g o (m.disj i g t a2 o) (by rw [hq]; simp)
    omega
  ·exact m'.disj 0 g t a2 o
 ·intro i g t e
  rcases hown i g t e with ⟨a1,a2,a3⟩ | ⟨a1,a2,a3⟩
  ·exact .inl ⟨i,t,a2⟩
  ·exact .inr a3
 ·have q:=inv_sl rv
  exact .leaf ⟨q.1,LfC_at (blk:=.arr es l) rfl (by simp [hidl]) hρi q.2⟩
end Go.Av
namespace Go.Proofs.YtnfkjpihaficbaaGreatDoor
open Go Go.Av Go.RowKit
def digB (c:UInt8):Bool:=digI c.toNat
def capB (c:UInt8):Bool:=capI c.toNat
def digs (s:List UInt8):List UInt8:=s.takeWhile digB
def caps (s:List UInt8):List UInt8:=s.dropWhile digB
theorem takeWhile_at {p:UInt8→Bool}:∀ {s:List UInt8} {k:Nat},k ≤ s.length→(s.take k).all p=true→(k=s.length∨p (s.getD k 0)=false)→s.takeWhile p=s.take k∧s.dropWhile p=s.drop k
 | [],k,hk,_,_=>by simp
 | c :: s,0,_,_,e=>by
  rcases e with e | e
  ·simp at e
  ·simp at e; simp [e]
 | c :: s,k+1,hk,h,e=>by
  simp only [List.take_succ_cons,List.all_cons,Bool.and_eq_true] at h
  have ih:=takeWhile_at (s:=s) (k:=k) (by simpa using hk) h.2 (by simpa using e)
  simp [h.1,ih.1,ih.2]
def numberL (s:List UInt8):Bool :=
 (caps s).all capB && (!(decide (((caps s).length:Int) > 5) || Lib.hasSuffix (caps s) [65]) &&
  (if digs s=[48] then caps s != [] else decide (1 ≤ (digs s).length) && (decide ((digs s).length ≤ 3) && ((s.getD 0 0).toNat:Int) != 48)))
set_option maxHeartbeats 1000000 in
theorem isNumber_pc' (s:List UInt8) (hs:s.length < 1000000):Pc Tryz.prog 203 [.str s] (· = .bool (numberL s)):=by
 refine pc_intro (ct_intro Tryz.func203 rfl Tryz.ntmps203 hB203 (by simp) fun h ρ w=>go (N:=56) Tryz.ntmps203 300 ?_)
 simp only [go_sem]
 refine aloopX (ι:=Nat) (κ:=Unit) (fun i=>s.length - i) (fun i=>[(3,.int .i64 i),(0,.str s)]) (fun _=>[]) (fun i=>i ≤ s.length∧(s.take i).all digB=true)
  (fun _=>[(3,.int .i64 (digs s).length),(0,.str s)]) (fun _=>[]) (fun _=>s=digs s++caps s) 0 ⟨by omega,by simp⟩ ?_ ?_ ?_
 ·refine Shift.weak ?_
  simp only [wk,go_sem]
 ·rintro - hd
  have hdl:(digs s).length ≤ s.length:=(congrArg List.length hd).symm ▸ by simp
  have edr:List.drop (digs s).length s=caps s:=(congrArg (List.drop (digs s).length) hd).trans (by simp)
  have etk:List.take (digs s).length s=digs s:=(congrArg (List.take (digs s).length) hd).trans (by simp)
  have hcl:(caps s).length ≤ s.length:=(congrArg List.length hd).symm ▸ by simp
  refine go (N:=56) Tryz.ntmps203 300 ?_
  simp only [go_sem,edr]
  refine ⟨by omega,by omega,by omega,?_⟩
  refine aloopX (ι:=Nat) (κ:=Unit) (fun i=>(caps s).length - i) (fun i=>[(23,.int .i64 i),(22,.int .i64 (caps s).length),(4,.str (caps s)),(3,.int .i64 (digs s).length),(0,.str s)]) (fun _=>[]) (fun i=>i ≤ (caps s).length∧((caps s).take i).all capB=true)
   (fun _=>[(4,.str (caps s)),(3,.int .i64 (digs s).length),(0,.str s)]) (fun _=>[]) (fun _=>(caps s).all capB=true) 0 ⟨by omega,by simp⟩ ?_ ?_ ?_
  ·refine Shift.weak ?_
   simp only [wk,go_sem]
  ·rintro - hc
   by_cases h5:((caps s).length:Int) > 5
   ·have d5:decide (((caps s).length:Int) > 5)=true:=by simpa using h5
    refine go (N:=56) Tryz.ntmps203 300 ?_
    simp only [go_sem,d5]
    exact aret [2] rfl ⟨by simp [resV,Av.get,numberL,d5],rfl⟩
   have d5:decide (((caps s).length:Int) > 5)=false:=by simpa using h5
   refine go (N:=56) Tryz.ntmps203 300 ?_
   simp only [go_sem,d5]
   refine pcall1 (hasSuffix_pc (caps s) [65] (by omega)) rfl (N:=56) Tryz.ntmps203 rfl (go (N:=56) Tryz.ntmps203 300 ?_)
   cases e6:Lib.hasSuffix (caps s) [65] with
   | true =>
    simp only [go_sem]
    exact aret [2] rfl ⟨by simp [resV,Av.get,numberL,e6],rfl⟩
   | false =>
   by_cases h7:digs s=[48]
   ·have d7:(digs s == [48])=true:=by simpa using h7
    simp only [go_sem,etk,d7]
    refine ⟨by omega,by omega,?_⟩
    exact aret [2] rfl ⟨by simp [resV,Av.get,numberL,h7,d5,e6,hc],rfl⟩
   have d7:(digs s == [48])=false:=by simpa using h7
   by_cases h8:((digs s).length:Int) ≥ 1
   ·have d8:decide (((digs s).length:Int) ≥ 1)=true:=by simpa using h8
    have d8':decide (1 ≤ (digs s).length)=true:=by simp; omega
    by_cases h9:((digs s).length:Int) ≤ 3
    ·have d9:decide (((digs s).length:Int) ≤ 3)=true:=by simpa using h9
     have d9':decide ((digs s).length ≤ 3)=true:=by simp; omega
     simp only [go_sem,etk,d7,d8,d9]
     refine ⟨by omega,by omega,by omega,?_⟩
     exact aret [2] rfl ⟨by simp only [resV,Av.get,numberL,d5,e6,hc,if_neg h7,d8',d9']; rfl,rfl⟩
    ·have d9:decide (((digs s).length:Int) ≤ 3)=false:=by simpa using h9
     have d9':decide ((digs s).length ≤ 3)=false:=by simp; omega
     simp only [go_sem,etk,d7,d8,d9]
     refine ⟨by omega,by omega,?_⟩
     exact aret [2] rfl ⟨by simp only [resV,Av.get,numberL,d5,e6,hc,if_neg h7,d8',d9']; rfl,rfl⟩
   ·have d8:decide (((digs s).length:Int) ≥ 1)=false:=by simpa using h8
    have d8':decide (1 ≤ (digs s).length)=false:=decide_eq_false (by omega)
    simp only [go_sem,etk,d7,d8]
    refine ⟨by omega,by omega,?_⟩
    exact aret [2] rfl ⟨by simp only [resV,Av.get,numberL,d5,e6,hc,if_neg h7,d8']; rfl,rfl⟩
  ·rintro i ⟨g1,g2⟩ J Q hJ hQ
   refine go (N:=56) Tryz.ntmps203 300 ?_
   by_cases hi:(i:Int) < (caps s).length
   ·have hil:i < (caps s).length:=by omega
    have hgd:(caps s).getD i 0=(caps s)[i]:=by simp [List.getD,hil]
    simp only [go_sem,hi,hgd]
    refine ⟨by omega,?_⟩
    refine pcall1 (isCapital_pc _) rfl (N:=56) Tryz.ntmps203 rfl (go (N:=56) Tryz.ntmps203 300 ?_)
    cases c1:capI ((caps s)[i].toNat:Int) with
    | true =>
     simp only [go_sem]
     rw [show (i:Int)+1=((i+1:Nat):Int) by omega]
     repeat refine And.intro (by omega) ?_
     refine ainv (hJ (i+1) ⟨by omega,all_take_succ hil g2 c1⟩ (by omega)) (Shift.weak ?_)
     simp only [wk,go_sem]
    | false =>
     simp only [go_sem]
     exact aret [2] rfl ⟨by simp [resV,Av.get,numberL,all_false_at hil (p:=capB) c1],rfl⟩
   ·simp only [go_sem,hi]
    have hall:(caps s).all capB=true:=by
     have ht:(caps s).take i=caps s:=List.take_of_length_le (by omega)
     rw [ht] at g2; exact g2
    refine ainv (hQ () hall) (Shift.weak ?_)
    simp only [wk,go_sem]
 ·rintro i ⟨g1,g2⟩ J Q hJ hQ
  have out:(i=s.length∨digB (s.getD i 0)=false)→((digs s).length=i∧s=digs s++caps s):=fun e=>by
   obtain ⟨e1,e2⟩:=takeWhile_at g1 g2 e
   exact ⟨by rw [digs,e1]; simp; omega,by simp [digs,caps]⟩
  refine go (N:=56) Tryz.ntmps203 300 ?_
  by_cases hi:(i:Int) < s.length
  ·have hil:i < s.length:=by omega
   have hgd:s.getD i 0=s[i]:=by simp [List.getD,hil]
   simp only [go_sem,hi,hgd]
   refine ⟨by omega,?_⟩
   refine pcall1 (isDigit_pc _) rfl (N:=56) Tryz.ntmps203 rfl (go (N:=56) Tryz.ntmps203 300 ?_)
   cases c1:digI (s[i].toNat:Int) with
   | true =>
    simp only [go_sem]
    rw [show (i:Int)+1=((i+1:Nat):Int) by omega]
    repeat refine And.intro (by omega) ?_
    refine ainv (hJ (i+1) ⟨by omega,all_take_succ hil g2 c1⟩ (by omega)) (Shift.weak ?_)
    simp only [wk,go_sem]
   | false =>
    obtain ⟨e1,e2⟩:=out (.inr (by rw [hgd]; exact c1))
    simp only [go_sem]
    refine ainv (hQ () e2) (Shift.weak ?_)
    rw [e1]
    simp only [wk,go_sem]
  ·simp only [go_sem,hi]
   obtain ⟨e1,e2⟩:=out (.inl (by omega))
   refine ainv (hQ () e2) (Shift.weak ?_)
   rw [e1]
   simp only [wk,go_sem]
def pN (s:List UInt8):Int:=(Lib.atoi (digs s)).getD 0
def okD (s:List UInt8):Prop:=1 ≤ (digs s).length∧(digs s).length ≤ 18
theorem digB_val {c:UInt8} (h:digB c=true):Lib.digitVal c=some (c.toNat - 48):=by
 simp only [digB,digI,Bool.and_eq_true,decide_eq_true_eq] at h
 unfold Lib.digitVal
 rw [if_pos (by omega)]
theorem decFrom_digs:∀ (l:List UInt8) (acc:Nat),l.all digB=true→∃ n,Lib.decFrom acc l=some n
 | [],acc,_=>⟨acc,rfl⟩
 | c :: l,acc,h=>by
  simp only [List.all_cons,Bool.and_eq_true] at h
  obtain ⟨n,hn⟩:=decFrom_digs l (acc * 10+(c.toNat - 48)) h.2
  exact ⟨n,by rw [Lib.decFrom,digB_val h.1]; exact hn⟩
theorem digs_all (s:List UInt8):(digs s).all digB=true:=List.all_takeWhile
theorem atoi_digs {s:List UInt8} (h:okD s):Lib.atoi (digs s)=some (pN s):=by
 obtain ⟨n,hn⟩:=decFrom_digs (digs s) 0 (digs_all s)
 have h1:=h.1
 have ha:=digs_all s
 have key:Lib.atoi (digs s)=some (n:Int):=by
  cases hq:digs s with
  | nil=>simp [hq] at h1
  | cons b r =>
   rw [hq] at hn ha
   simp only [List.all_cons,Bool.and_eq_true,digB,digI,decide_eq_true_eq] at ha
   have b1:(b == 45)=false:=by
    cases hb:b == 45 with
    | false=>rfl
    | true =>
     have:b=45:=by simpa using hb
     subst this; exact absurd ha.1.1 (by decide)
   have b2:(b == 43)=false:=by
    cases hb:b == 43 with
    | false=>rfl
    | true =>
     have:b=43:=by simpa using hb
     subst this; exact absurd ha.1.1 (by decide)
   simp [Lib.atoi,b1,b2,Lib.decNat,hn]
 rw [pN,key]; rfl
theorem same_below {w w':World} (b:Below w.heap.size w w'):Same w w':=⟨b.os,b.tape,⟨b.output,trivial⟩,b.size,b.block⟩
theorem one_str (s:List UInt8):∀ h vs',RL h Lf0 true vs' [.str s]→vs'=[.string ⟨s.toArray⟩]:=by
 intro h vs' r
 cases r with | cons r1 r=>cases r; rw [rv_str r1]
theorem one_int (k:IntKind) (n:Int):∀ h vs',RL h Lf0 true vs' [.int k n]→vs'=[.int k n]:=by
 intro h vs' r
 cases r with | cons r1 r=>cases r; rw [rv_int r1]
theorem str_int (s:List UInt8) (k:IntKind) (n:Int):∀ h vs',RL h Lf0 true vs' [.str s,.int k n]→vs'=[.string ⟨s.toArray⟩,.int k n]:=by
 intro h vs' r
 cases r with | cons r1 r=>cases r with | cons r2 r=>cases r; rw [rv_str r1,rv_int r2]
theorem atoi_pc (s:List UInt8) (n:Int) (hl:s.length ≤ 18) (h:Lib.atoi s=some n):Pc Tryz.prog 94 [.str s] (· = .tup [.int .i64 n,.raw .nilIface]) :=
 pc_lib [_] (.tuple #[.int .i64 n,.nilIface]) hB94 (one_str s) (fun h=>.tup [_,_] [_,_] (.cons (.int _ _) (.cons (.raw _) .nil)))
  fun w=>(Any.strconv_Atoi Tryz.lays172 ⟨s.toArray⟩ n (by simpa [ByteArray.size] using hl) h w).mono fun e w' ⟨h1,t,h2⟩=>⟨h1,h2 ▸ same_below (Lib.bytesWorld_below _ _ _)⟩
theorem compare_str_pc (a b:List UInt8):Pc Tryz.prog 113 [.str a,.str b] (· = .int .i64 (Lib.compareBytes a b)) :=
 pc_lib [_,_] (.int .i64 (Lib.compareBytes a b)) hB113 (two_strs a b) (fun h=>.int _ _) fun w=>(Any.strings_Compare Tryz.lays106 ⟨a.toArray⟩ ⟨b.toArray⟩ w).mono fun e w' ⟨h1,h2⟩=>⟨h1,h2 ▸ .refl w⟩
theorem repeat_pc (s:List UInt8) (c:Nat) (hlen:s.length * c ≤ 1000000) (hc:c ≤ 1000000):Pc Tryz.prog 72 [.str s,.int .i64 c] (· = .str (Lib.repeatL s c)) :=
 pc_lib [_,.int .i64 c] (.string ⟨(Lib.repeatL s c).toArray⟩) hB72 (str_int s .i64 c) (fun h=>.str _)
  fun w=>(Any.strings_Repeat Tryz.lays105 Tryz.Builder_Extra_105 ⟨s.toArray⟩ c w (by omega) (by simp [ByteArray.size]; omega)).mono fun e w' ⟨h1,h2⟩=>⟨h1,same_below h2⟩
theorem isNaN_int_pc (x:Int):Pc Tryz.prog 161 [.int .i64 x] (· = .bool false):=by
 refine pc_intro (ct_intro Tryz.func161 rfl Tryz.ntmps161 hB161 (by simp) fun h ρ w=>go (N:=6) Tryz.ntmps161 300 ?_)
 simp only [go_sem]
 exact aret [2] rfl ⟨by simp [resV,Av.get],rfl⟩
def cmpI (x y:Int):Int:=if x < y then -1 else if x > y then 1 else 0
theorem cmp_int_pc (x y:Int):Pc Tryz.prog 112 [.int .i64 x,.int .i64 y] (· = .int .i64 (cmpI x y)):=by
 refine pc_intro (ct_intro Tryz.func112 rfl Tryz.ntmps112 hB112 (by simp) fun h ρ w=>go (N:=20) Tryz.ntmps112 300 ?_)
 simp only [go_sem]
 refine pcall1 (isNaN_int_pc _) rfl (N:=20) Tryz.ntmps112 rfl (go (N:=20) Tryz.ntmps112 300 ?_)
 simp only [go_sem]
 refine pcall1 (isNaN_int_pc _) rfl (N:=20) Tryz.ntmps112 rfl (go (N:=20) Tryz.ntmps112 300 ?_)
 by_cases h1:x < y
 ·have d1:decide (x < y)=true:=by simpa using h1
  simp only [go_sem,d1]
  exact aret [4] rfl ⟨by simp [resV,Av.get,cmpI,h1],rfl⟩
 have d1:decide (x < y)=false:=by simpa using h1
 by_cases h2:x > y
 ·have d2:decide (x > y)=true:=by simpa using h2
  simp only [go_sem,d1,d2]
  exact aret [4] rfl ⟨by simp [resV,Av.get,cmpI,h1,h2],rfl⟩
 have d2:decide (x > y)=false:=by simpa using h2
 simp only [go_sem,d1,d2]
 exact aret [4] rfl ⟨by simp [resV,Av.get,cmpI,h1,h2],rfl⟩
def orI (x y:Int):Int:=if x=0 then y else x
theorem or_pc (x y:Int):Pc Tryz.prog 111 [.fz 1 [.int .i64 x,.int .i64 y]] (· = .int .i64 (orI x y)):=by
 refine pc_intro (ct_intro Tryz.func111 rfl Tryz.ntmps111 hB111 (by simp) fun h ρ w=>go (N:=18) Tryz.ntmps111 300 ?_)
 simp only [go_sem]
 refine aenter (around (go (N:=18) Tryz.ntmps111 300 ?_))
 by_cases h1:x=0
 ·have d1:(x != 0)=false:=by simpa using h1
  simp only [go_sem,d1]
  refine aagain (around (go (N:=18) Tryz.ntmps111 300 ?_))
  by_cases h2:y=0
  ·have d2:(y != 0)=false:=by simpa using h2
   simp only [go_sem,d2]
   refine aagain (around (go (N:=18) Tryz.ntmps111 300 ?_))
   simp only [go_sem]
   exact aret [2] rfl ⟨by simp [resV,Av.get,orI,h1,h2],rfl⟩
  have d2:(y != 0)=true:=by simpa using h2
  simp only [go_sem,d2]
  exact aret [2] rfl ⟨by simp [resV,Av.get,orI,h1],rfl⟩
 have d1:(x != 0)=true:=by simpa using h1
 simp only [go_sem,d1]
 exact aret [2] rfl ⟨by simp [resV,Av.get,orI,h1],rfl⟩
abbrev bys (l:List UInt8):List AV:=l.map fun b=>.int .u8 b.toNat
theorem bys_text (l:List UInt8):(bys l).all isByte=true∧(bys l).map Go.Av.byteOf=l:=by
 refine ⟨by simp [List.all_eq_true,isByte],?_⟩
 induction l with
 | nil=>rfl
 | cons b l ih =>
  simp only [bys,List.map_cons,Go.Av.byteOf] at ih ⊢
  rw [ih]
  simp
theorem itoa_pch {S:Std} (hS:LibOk S) (n:Int) (h0:-9223372036854775808 ≤ n) (h1:n ≤ 9223372036854775807):PcH Tryz.prog S 91 [.int .i64 n] (· = .str (Lib.itoa n)) :=
 pch_lib [_] (.string ⟨(Lib.itoa n).toArray⟩) hB91 (one_int .i64 n) (fun h=>.str _) fun w H=>by
  obtain ⟨t,z,hp⟩:=hS.pow10
  refine (Any.strconv_Itoa Tryz.laysM171 n h0 h1 w ?_).mono fun e w' ⟨e1,k,os,e2⟩=>⟨e1,e2 ▸ same_below (Lib.below_grow _ _ (Nat.le_refl _) _ _)⟩
  show w.var? _ _=_
  have hg:Tryz.prog.globalNamed "internal/strconv.uint64pow10" = some 5:=by kernel_rfl
  simp only [World.var?,hg,Option.bind_some,H _ _ hp]
def dig3 (d:Int):List UInt8 :=
 if d.toNat < 10 then [UInt8.ofNat (48+d.toNat)] else if d.toNat < 100 then [UInt8.ofNat (48+d.toNat / 10),UInt8.ofNat (48+d.toNat % 10)]
 else [UInt8.ofNat (48+d.toNat / 100),UInt8.ofNat (48+d.toNat / 10 % 10),UInt8.ofNat (48+d.toNat % 10)]
theorem itoa_dig3 {d:Int} (h0:0 ≤ d) (h1:d ≤ 999):Lib.itoa d=dig3 d:=by
 unfold Lib.itoa dig3
 rw [if_neg (by omega)]
 generalize hu:d.toNat=u
 have hu1:u ≤ 999:=by omega
 by_cases h10:u < 10
 ·rw [if_pos h10,Lib.decDigits_one h10]
 ·rw [if_neg h10]
  by_cases h100:u < 100
  ·rw [if_pos h100,Lib.decDigits_two h10 h100]
  ·rw [if_neg h100,Lib.decDigits,dif_neg h10,Lib.decDigits_two (by omega) (by omega)]
   simp [Nat.div_div_eq_div_mul]
theorem clone0_pc:Pc Tryz.prog 90 [.fz 5 []] (· = .fz 5 []):=by
 refine pc_intro (ct_intro Tryz.func90 rfl Tryz.ntmps90 hB90 (by simp) fun h ρ w=>go (N:=8) Tryz.ntmps90 300 ?_)
 simp only [go_sem]
 intro b
 refine go (N:=8) Tryz.ntmps90 300 ?_
 cases b with
 | true =>
  simp only [go_sem]
  exact ARet.shift (Shift.nilfz 2 5 rfl) (aret [2] rfl ⟨rfl,rfl⟩)
 | false =>
  simp only [go_sem]
  refine ⟨.inl trivial,?_⟩
  exact ARet.shift (Shift.freeze 2 (id:=0) rfl rfl rfl (Nat.le_refl _) rfl) (aret [2] rfl ⟨rfl,rfl⟩)
theorem clone_ct (x:Sc) (xs:List Sc) (hl:xs.length ≤ 100000) :
  Ct Tryz.prog 90 [.fz 5 ((x :: xs).map scA)] [] (fun r s=>r=.sl 0 0 (x :: xs).length (x :: xs).length∧s=[.arr 5 ((x :: xs).map scA)]):=by
 refine ct_intro Tryz.func90 rfl Tryz.ntmps90 hB90 (by simp) fun h ρ w=>go (N:=8) Tryz.ntmps90 300 ?_
 simp only [go_sem,scA]
 refine ⟨by simp,by simp; omega,by simp; omega,aret [2] rfl ⟨by simp [resV,Av.get,scA],rfl⟩⟩
def nm (i:Nat) (x:Sc):Sc:={ x with no:=Lib.itoa ((i:Int)+1) }
def numL:Nat→List Sc→List Sc
 | _,[]=>[]
 | i,x :: r=>nm i x :: numL (i+1) r
def numR (x:Sr):Sr:=⟨x.title,numL 0 x.scenes⟩
set_option maxHeartbeats 2000000 in
theorem numbered_pch {S:Std} (hS:LibOk S) (x:Sr) (hl:x.scenes.length ≤ 1000):PcH Tryz.prog S 40 [srA x] (· = srA (numR x)):=by
 obtain ⟨ti,xs⟩:=x
 cases xs with
 | nil =>
  simp only [srA,List.map_nil,numR,numL]
  refine pch_intro (cth_intro Tryz.func40 rfl Tryz.ntmps40 hB40 (by simp) fun h ρ w hg=>go (N:=27) Tryz.ntmps40 300 ?_)
  simp only [go_sem]
  refine adrawI [] 99 [.fz 5 []] mixed (by decide) (N:=27) Tryz.ntmps40 (by decide) 100 ?_
  simp only [go_sem]
  refine ⟨clone0_pc.at,rfl,?_⟩
  refine go (N:=27) Tryz.ntmps40 300 ?_
  simp only [go_sem]
  refine aenter (around (go (N:=27) Tryz.ntmps40 300 ?_))
  simp only [go_sem]
  exact aretc [.cell 2 28] rfl [_] ⟨by simp only [go_sem,sideIs],trivial⟩ ⟨rfl,rfl⟩
 | cons x xs =>
  simp only [srA]
  refine pch_intro (cth_intro Tryz.func40 rfl Tryz.ntmps40 hB40 (by simp) fun h ρ w hg=>go (N:=27) Tryz.ntmps40 300 ?_)
  simp only [go_sem]
  refine AWp.shift (Shift.reserve 5) ?_
  refine adrawI [4] 2 [] mixed (by decide) (N:=27) Tryz.ntmps40 (by decide) 100 ?_
  simp only [go_sem]
  have hfro:(flat ((x :: xs).map scA)).all Av.frozen=true:=frozen_scenes (x :: xs)
  refine icall_new (clone_ct x xs (by simp at hl ⊢; omega)) (by simp) (by simp) rfl hfro rfl ?_
  simp only [go_sem]
  refine go (N:=27) Tryz.ntmps40 300 ?_
  simp only [go_sem]
  refine ⟨by simp,?_⟩
  have hys:AV.fz 5 (List.map scA (numR ⟨ti,x :: xs⟩).scenes)=.fz 5 (List.map scA (numL 0 (x :: xs))):=rfl
  rw [hys]
  clear hys
  have hl':xs.length+1 ≤ 1000:=by simpa using hl
  have hnum:∃ out,numL 0 (x :: xs)=out:=⟨_,rfl⟩
  obtain ⟨out,hout⟩:=hnum
  rw [hout]
  refine aloop (ι:=List Sc × List Sc) (fun y=>y.2.length)
   (fun y=>[(14,.int .i64 y.1.length),(13,.int .i64 ↑(xs.length+1)),(3,.ptr 3 1 0 0),(2,.ptr 1 1 0 0)])
   (fun y=>[.arr 2 [.agg [.str ti,.fz 5 (scA x :: List.map scA xs)]],.arr 2 [.agg [.str [],.raw (.slice none 0 0)]],.arr 5 (List.map scA (y.1++y.2)),.arr 2 [.agg [.str ti,.sl 2 0 (xs.length+1) (xs.length+1)]]])
   (fun y=>y.1.length+y.2.length=xs.length+1∧y.1++numL y.1.length y.2=out) ([],x :: xs) ⟨by simp,hout⟩ ?_ ?_
  ·refine Shift.weak ?_
   simp only [wk,go_sem]
  ·rintro ⟨dn,rest⟩ ⟨g1,g2⟩ J hJ
   simp only at g1 g2 hJ ⊢
   cases rest with
   | cons y r =>
    have di:decide ((dn.length:Int) < ((xs.length+1:Nat):Int))=true:=by simp at g1 ⊢; omega
    refine go (N:=27) Tryz.ntmps40 300 ?_
    simp only [go_sem,di]
    refine adraw [.str (Lib.itoa ((dn.length:Int)+1))] mixed (by decide) (N:=27) Tryz.ntmps40 (by decide) 100 ?_
    have hx:List.getD (List.map scA (dn++y :: r)) dn.length .any=.agg [.str y.no,.int .i64 y.place,.str y.set,.int .i64 y.time,.fz 2 (y.paras.map paA)]:=by simp [List.getD,scA]
    simp only [go_sem,hx]
    refine ⟨by omega,by omega,(itoa_pch hS _ (by omega) (by omega)).at hg,rfl,by simp at g1 ⊢; omega,by omega,by simp at g1 ⊢; omega,by omega,by simp,?_⟩
    have hset:(List.map scA (dn++y :: r)).set dn.length (.agg [.str (Lib.itoa ((dn.length:Int)+1)),.int .i64 y.place,.str y.set,.int .i64 y.time,.fz 2 (y.paras.map paA)])=List.map scA ((dn++[nm dn.length y])++r):=by
     simp [nm,scA]
    rw [hset]
    refine go (N:=27) Tryz.ntmps40 300 ?_
    simp only [go_sem]
    refine ⟨by omega,by omega,?_⟩
    rw [show (dn.length:Int)+1=((dn++[nm dn.length y]).length:Int) by simp]
    refine ainv (hJ (dn++[nm dn.length y],r) ⟨by simp at g1 ⊢; omega,by rw [← g2]; simp [numL]⟩ (by simp)) (Shift.weak ?_)
    simp only [wk,go_sem]
   | nil =>
    have di:decide (((xs.length+1:Nat):Int) < ((xs.length+1:Nat):Int))=false:=by simp
    simp only [List.append_nil,numL] at g2 ⊢
    subst g2
    have hn:dn.length=xs.length+1:=by simpa using g1
    refine AWp.shift (Shift.frz 2 rfl (frozen_scenes dn)) ?_
    simp only [frzE,frz,frz1,frzC,frzB,List.map_cons,List.map_nil,List.set_cons_succ,List.set_cons_zero,Nat.reduceBEq,cond_true,cond_false,Bool.false_and,Bool.true_and,List.length_map,Nat.zero_add,hn,decide_true,Nat.le_refl,List.drop_zero]
    have:List.take (xs.length+1) (List.map scA dn)=List.map scA dn:=List.take_of_length_le (by simp; omega)
    simp only [this]
    refine go (N:=27) Tryz.ntmps40 300 ?_
    simp only [go_sem,di]
    exact aretc [.cell 2 28] rfl [_] ⟨by simp only [go_sem,sideIs,numR],trivial⟩ ⟨rfl,rfl⟩
end Go.Proofs.YtnfkjpihaficbaaGreatDoor
