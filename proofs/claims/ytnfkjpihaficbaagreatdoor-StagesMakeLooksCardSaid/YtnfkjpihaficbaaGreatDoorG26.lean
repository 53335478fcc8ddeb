/- Facts, looks, the map of looks: plain law. Own work of this seat. -/
import Derived.Test.YtnfkjpihaficbaaGreatDoorG21
set_option maxRecDepth 100000
set_option linter.unusedSimpArgs false
set_option linter.unusedVariables false
namespace Go.Proofs.YtnfkjpihaficbaaGreatDoor
open Go Go.Av Go.RowKit
structure El where
 kind:Int
 name:List UInt8
deriving DecidableEq
structure Fa where
 scene:List UInt8
 el:El
 facet:List UInt8
 value:List UInt8
deriving DecidableEq
structure Lk where
 el:El
 facet:List UInt8
 value:List UInt8
deriving DecidableEq
section
variable {κ ν:Type} [DecidableEq κ]
def tval (k:κ):List (Option (κ × ν))→Option ν
 | []=>none
 | some x :: r=>if x.1=k then some x.2 else tval k r
 | none :: r=>tval k r
def tix (k:κ):List (Option (κ × ν))→Option Nat
 | []=>none
 | some x :: r=>if x.1=k then some 0 else (tix k r).map (· + 1)
 | none :: r=>(tix k r).map (· + 1)
def tput (es:List (Option (κ × ν))) (k:κ) (v:ν):List (Option (κ × ν)):=match tix k es with
 | some i=>es.set i (some (k,v))
 | none=>es++[some (k,v)]
def tdel (es:List (Option (κ × ν))) (k:κ):List (Option (κ × ν)):=match tix k es with
 | some i=>es.set i none
 | none=>es
def Tuniq (es:List (Option (κ × ν))):Prop:=es.Pairwise fun a b=>∀ x y,a=some x→b=some y→x.1 ≠ y.1
theorem tix_none {k:κ}:∀ {es:List (Option (κ × ν))},tix k es=none ↔ ∀ x,some x ∈ es→x.1 ≠ k
 | []=>by simp [tix]
 | none :: r=>by
  have ih:=tix_none (k:=k) (es:=r)
  simp only [tix,Option.map_eq_none_iff,ih,List.mem_cons]
  constructor
  ·rintro h x (e | e)
   ·cases e
   ·exact h x e
  ·exact fun h x e=>h x (.inr e)
 | some y :: r=>by
  have ih:=tix_none (k:=k) (es:=r)
  simp only [tix]
  split
  ·rename_i h
   constructor
   ·intro e; cases e
   ·intro e; exact absurd h (e y (by simp))
  ·rename_i h
   rw [Option.map_eq_none_iff,ih]
   constructor
   ·intro e x hx
    rcases List.mem_cons.1 hx with hx | hx
    ·cases hx; exact h
    ·exact e x hx
   ·exact fun e x hx=>e x (by simp [hx])
theorem tix_some {k:κ}:∀ {es:List (Option (κ × ν))} {i:Nat},tix k es=some i→∃ v,es[i]? = some (some (k,v))∧tval k es=some v
 | [],i,h=>by simp [tix] at h
 | none :: r,i,h=>by
  simp only [tix,Option.map_eq_some_iff] at h
  obtain ⟨j,h1,rfl⟩:=h
  obtain ⟨v,h2,h3⟩:=tix_some h1
  exact ⟨v,by simpa using h2,by simpa [tval] using h3⟩
 | some y :: r,i,h=>by
  simp only [tix] at h
  split at h
  ·rename_i e
   simp at h
   subst h e
   exact ⟨y.2,by simp,by simp [tval]⟩
  ·rename_i e
   obtain ⟨j,h1,rfl⟩:=Option.map_eq_some_iff.1 h
   obtain ⟨v,h2,h3⟩:=tix_some h1
   exact ⟨v,by simpa using h2,by simpa [tval,e] using h3⟩
theorem tval_mem {k:κ} {v:ν}:∀ {es:List (Option (κ × ν))},Tuniq es→(tval k es=some v ↔ some (k,v) ∈ es)
 | [],_=>by simp [tval]
 | none :: r,h=>by
  have ih:=tval_mem (k:=k) (v:=v) (es:=r) (List.pairwise_cons.1 h).2
  simp [tval,ih]
 | some y :: r,h=>by
  obtain ⟨h1,h2⟩:=List.pairwise_cons.1 h
  have ih:=tval_mem (k:=k) (v:=v) (es:=r) h2
  simp only [tval]
  split
  ·rename_i e
   constructor
   ·intro hv; simp at hv; subst hv e; simp
   ·intro hm
    rcases List.mem_cons.1 hm with hm | hm
    ·simp only [Option.some.injEq] at hm ⊢; rw [← hm]
    ·exact absurd e (h1 _ hm y (k,v) rfl rfl)
  ·rename_i e
   rw [ih]
   constructor
   ·exact fun hm=>by simp [hm]
   ·intro hm
    rcases List.mem_cons.1 hm with hm | hm
    ·simp only [Option.some.injEq] at hm; rw [← hm] at e; exact absurd rfl e
    ·exact hm
theorem tuniq_set {k:κ} {v:Option ν} {es:List (Option (κ × ν))} {i:Nat} (hu:Tuniq es) (h:tix k es=some i):Tuniq (es.set i (v.map fun v=>(k,v))):=by
 obtain ⟨v0,h1,_⟩:=tix_some h
 obtain ⟨hil,h1⟩:=List.getElem?_eq_some_iff.1 h1
 unfold Tuniq at hu ⊢
 rw [List.pairwise_iff_getElem] at hu ⊢
 intro a b ha hb hab x y hx hy
 rw [List.length_set] at ha hb
 rw [List.getElem_set] at hx hy
 split at hx <;> split at hy
 ·omega
 ·rename_i e1 e2
  subst e1
  obtain ⟨v,_,rfl⟩:=Option.map_eq_some_iff.1 hx
  exact hu i b ha hb hab (k,v0) y h1 hy
 ·rename_i e1 e2
  subst e2
  obtain ⟨v,_,rfl⟩:=Option.map_eq_some_iff.1 hy
  exact hu a i ha hb hab x (k,v0) hx h1
 ·exact hu a b ha hb hab x y hx hy
theorem tuniq_put {k:κ} {v:ν} {es:List (Option (κ × ν))} (hu:Tuniq es):Tuniq (tput es k v):=by
 unfold tput
 cases h:tix k es with
 | none =>
  simp only
  refine List.pairwise_append.2 ⟨hu,by simp,fun a ha b hb x y hx hy=>?_⟩
  rw [List.mem_singleton.1 hb] at hy
  cases hy
  subst hx
  exact tix_none.1 h x ha
 | some i=>exact tuniq_set (v:=some v) hu h
theorem tuniq_del {k:κ} {es:List (Option (κ × ν))} (hu:Tuniq es):Tuniq (tdel es k):=by
 unfold tdel
 cases h:tix k es with
 | none=>exact hu
 | some i=>exact tuniq_set (v:=none) hu h
theorem tput_len {k:κ} {v:ν} {es:List (Option (κ × ν))}:(tput es k v).length ≤ es.length+1:=by
 unfold tput
 split <;> simp
theorem tdel_len {k:κ} {es:List (Option (κ × ν))}:(tdel es k).length=es.length:=by
 unfold tdel
 split <;> simp
end
def fkey (f:Fa):El × List UInt8:=(f.el,f.facet)
abbrev LMap:=List (Option ((El × List UInt8) × List UInt8))
def lstep (es:LMap) (f:Fa):LMap:=if f.value=[] then tdel (tput es (fkey f) f.value) (fkey f) else tput es (fkey f) f.value
def lrun (fs:List Fa):LMap:=fs.foldl lstep []
theorem lrun_snoc (fs:List Fa) (f:Fa):lrun (fs++[f])=lstep (lrun fs) f:=by simp [lrun]
theorem lrun_uniq (fs:List Fa):Tuniq (lrun fs):=by
 suffices ∀ n,∀ fs:List Fa,fs.length=n→Tuniq (lrun fs) from this _ fs rfl
 intro n
 induction n with
 | zero=>intro fs h; rw [List.eq_nil_of_length_eq_zero h]; exact .nil
 | succ n ih =>
  intro fs h
  obtain ⟨r,f,rfl⟩:∃ r f,fs=r++[f]:=⟨fs.dropLast,fs.getLast (by intro e; subst e; simp at h),(List.dropLast_concat_getLast _).symm⟩
  have hr:=ih r (by simpa using h)
  rw [lrun_snoc]
  unfold lstep
  split
  ·exact tuniq_del (tuniq_put hr)
  ·exact tuniq_put hr
theorem lrun_len (fs:List Fa):(lrun fs).length ≤ fs.length:=by
 suffices ∀ n,∀ fs:List Fa,fs.length=n→(lrun fs).length ≤ fs.length from this _ fs rfl
 intro n
 induction n with
 | zero=>intro fs h; rw [List.eq_nil_of_length_eq_zero h]; simp [lrun]
 | succ n ih =>
  intro fs h
  obtain ⟨r,f,rfl⟩:∃ r f,fs=r++[f]:=⟨fs.dropLast,fs.getLast (by intro e; subst e; simp at h),(List.dropLast_concat_getLast _).symm⟩
  have hr:=ih r (by simpa using h)
  rw [lrun_snoc,List.length_append,List.length_singleton]
  unfold lstep
  split
  ·rw [tdel_len]; exact Nat.le_trans tput_len (by omega)
  ·exact Nat.le_trans tput_len (by omega)
end Go.Proofs.YtnfkjpihaficbaaGreatDoor
namespace Go.Proofs.YtnfkjpihaficbaaGreatDoor
open Go Go.Av Go.RowKit
def blkS (L:List Int) (k:Int):Blk:=.arr 2 [str L k]
def blkZ:Blk:=.arr 2 [.agg [.str [],.raw (.slice none 0 0)]]
set_option maxHeartbeats 2000000 in
theorem numbered_cth {S:Std} (hS:LibOk S) (L:List Int) (k:Int) (ti:List UInt8) (x:Sc) (xs:List Sc) (hl:xs.length ≤ 1000) :
  CtH Tryz.prog S 40 [srA ⟨ti,x :: xs⟩] [blkS L k,blkZ] (fun r s=>r=.agg [.str ti,.sl 4 0 (xs.length+1) (xs.length+1)] ∧
   s=[blkS L k,blkZ,.arr 2 [srA ⟨ti,x :: xs⟩],.arr 2 [.agg [.str ti,.sl 4 0 (xs.length+1) (xs.length+1)]],.arr 5 ((numL 0 (x :: xs)).map scA),.arr 2 [.agg [.str ti,.sl 4 0 (xs.length+1) (xs.length+1)]]]):=by
 simp only [srA]
 refine cth_intro Tryz.func40 rfl Tryz.ntmps40 hB40 (by simp) fun h ρ w hg=>go (N:=27) Tryz.ntmps40 300 ?_
 simp only [go_sem]
 refine AWp.shift (Shift.reserve 5) ?_
 refine adrawI [4] 4 [] mixed (by decide) (N:=27) Tryz.ntmps40 (by decide) 100 ?_
 simp only [go_sem]
 have hfro:(flat ((x :: xs).map scA)).all Av.frozen=true:=frozen_scenes (x :: xs)
 refine icall_new (clone_ct x xs (by omega)) (by simp) (by simp) rfl hfro rfl ?_
 simp only [go_sem]
 refine go (N:=27) Tryz.ntmps40 300 ?_
 simp only [go_sem]
 refine ⟨by simp,?_⟩
 have hnum:∃ out,numL 0 (x :: xs)=out:=⟨_,rfl⟩
 obtain ⟨out,hout⟩:=hnum
 rw [hout]
 refine aloop (ι:=List Sc × List Sc) (fun y=>y.2.length)
  (fun y=>[(14,.int .i64 y.1.length),(13,.int .i64 ↑(xs.length+1)),(3,.ptr 5 1 0 0),(2,.ptr 3 1 0 0)])
  (fun y=>[blkS L k,blkZ,.arr 2 [.agg [.str ti,.fz 5 (scA x :: List.map scA xs)]],.arr 2 [.agg [.str [],.raw (.slice none 0 0)]],.arr 5 (List.map scA (y.1++y.2)),.arr 2 [.agg [.str ti,.sl 4 0 (xs.length+1) (xs.length+1)]]])
  (fun y=>y.1.length+y.2.length=xs.length+1∧y.1++numL y.1.length y.2=out) ([],x :: xs) ⟨by simp,hout⟩ ?_ ?_
 ·refine Shift.weak ?_
  simp only [wk,go_sem]
 ·rintro ⟨dn,rest⟩ ⟨g1,g2⟩ J hJ
  simp only at g1 g2 hJ ⊢
  cases rest with
  | cons y r =>
   have di:decide ((dn.length:Int) < ((xs.length+1:Nat):Int))=true:=by simp at g1 ⊢; omega
   refine go (N:=27) Tryz.ntmps40 300 ?_
   simp only [go_sem,di]
   refine adraw [.str (Lib.itoa ((dn.length:Int)+1))] mixed (by decide) (N:=27) Tryz.ntmps40 (by decide) 100 ?_
   have hx:List.getD (List.map scA (dn++y :: r)) dn.length .any=.agg [.str y.no,.int .i64 y.place,.str y.set,.int .i64 y.time,.fz 2 (y.paras.map paA)]:=by simp [List.getD,scA]
   simp only [go_sem,hx]
   refine ⟨by omega,by omega,(itoa_pch hS _ (by omega) (by omega)).at hg,rfl,by simp at g1 ⊢; omega,by omega,by simp at g1 ⊢; omega,by omega,by simp,?_⟩
   have hset:(List.map scA (dn++y :: r)).set dn.length (.agg [.str (Lib.itoa ((dn.length:Int)+1)),.int .i64 y.place,.str y.set,.int .i64 y.time,.fz 2 (y.paras.map paA)])=List.map scA ((dn++[nm dn.length y])++r):=by
    simp [nm,scA]
   rw [hset]
   refine go (N:=27) Tryz.ntmps40 300 ?_
   simp only [go_sem]
   refine ⟨by omega,by omega,?_⟩
   rw [show (dn.length:Int)+1=((dn++[nm dn.length y]).length:Int) by simp]
   refine ainv (hJ (dn++[nm dn.length y],r) ⟨by simp at g1 ⊢; omega,by rw [← g2]; simp [numL]⟩ (by simp)) (Shift.weak ?_)
   simp only [wk,go_sem]
  | nil =>
   simp only [List.append_nil,numL] at g2 ⊢
   subst g2
   have hn:dn.length=xs.length+1:=by simpa using g1
   have di:decide ((dn.length:Int) < ((xs.length+1:Nat):Int))=false:=by simp; omega
   refine go (N:=27) Tryz.ntmps40 300 ?_
   simp only [go_sem,di]
   exact aretc [.cell 2 28] rfl [_] ⟨by simp only [go_sem,sideIs],trivial⟩ ⟨rfl,rfl⟩
theorem num_last (i:Nat) (hi:i < 5):Lib.itoa ((i:Int)+1)=lastL (i+1):=by
 rw [itoa_dig3 (by omega) (by omega)]
 exact (last_facts i hi).2.2.2.2.2.2.2.2.symm
theorem numL_len:∀ (i:Nat) (xs:List Sc),(numL i xs).length=xs.length
 | _,[]=>rfl
 | i,x :: r=>by simp [numL,numL_len (i+1) r]
theorem numL_get:∀ (xs:List Sc) (i j:Nat) (h:j < xs.length),(numL i xs)[j]? = some (nm (i+j) xs[j])
 | [],i,j,h=>by simp at h
 | x :: r,i,0,h=>by simp [numL]
 | x :: r,i,j+1,h=>by
  simp only [numL,List.getElem?_cons_succ,List.getElem_cons_succ]
  rw [numL_get r (i+1) j (by simpa using h)]
  congr 2
  omega
theorem set_same {α:Type} {l:List α} {i:Nat} {a:α} (h:l[i]? = some a):l.set i a=l:=by
 apply List.ext_getElem?
 intro j
 rw [List.getElem?_set]
 split
 ·rename_i hj
  subst hj
  split
  ·exact h.symm
  ·rename_i hn
   rw [List.getElem?_eq_none (by omega)] at h
   cases h
 ·rfl
def nx (L:List Int) (k n:Int):Int:=if L.length=0 then (IntKind.i64.wrap ((k+1) * 7919)) % n else (IntKind.i64.wrap (L.getD (k % L.length).toNat 0 % 1073741824+IntKind.i64.wrap (k / L.length * IntKind.i64.wrap (7919+k % L.length)))) % n
theorem nx_bd (L:List Int) (k n:Int) (h:1 ≤ n):0 ≤ nx L k n∧nx L k n < n:=by
 unfold nx
 split
 ·exact ⟨Int.emod_nonneg _ (by omega),Int.emod_lt_of_pos _ (by omega)⟩
 ·exact ⟨Int.emod_nonneg _ (by omega),Int.emod_lt_of_pos _ (by omega)⟩
theorem nextX_mc (L:List Int) (k n:Int) (h1:1 ≤ n) (h2:n ≤ 9223372036854775807) (h3:0 ≤ k) (h4:k ≤ 1000000) :
  Mc Tryz.prog 23 2 (str L k) [.int .i64 n] (fun r s=>r=.int .i64 (nx L k n)∧s=str L (k+1)):=by
 refine ct_intro Tryz.func23 rfl Tryz.ntmps23 hB23 (by simp) fun h ρ w=>goW (N:=64) Tryz.ntmps23 200 ?_
 have hw:IntKind.i64.wrap (k+1)=k+1:=IntWalk.i64_in _ ⟨by omega,by omega⟩
 have hk:k+1 - 1=k:=by omega
 have hwk:IntKind.i64.wrap k=k:=IntWalk.i64_in _ ⟨by omega,by omega⟩
 have fin:∀ x:Int,0 ≤ x % n∧x % n < n:=fun x=>⟨Int.emod_nonneg x (by omega),Int.emod_lt_of_pos x (by omega)⟩
 simp only [go_sem,xint,str,hw]
 refine ⟨fun h5=>?_,fun h5=>?_⟩
 ·refine pcall1 (below_pc _ n h1 h2) rfl (N:=64) Tryz.ntmps23 rfl (goW (N:=64) Tryz.ntmps23 200 ?_)
  simp only [go_sem,xint]
  have hL0:L.length=0:=by first | (simpa using h5) | omega
  exact aret [4] rfl ⟨_,_,rfl,by unfold nx; rw [if_pos hL0]; rfl,rfl,rfl,rfl⟩
 ·refine adraw [] mixed (by decide) (N:=64) Tryz.ntmps23 (by decide) 100 ?_
  simp only [go_sem,xint,hw,hk,hwk]
  have hm0:0 < ((List.map (AV.int .i64) L).length:Int):=by omega
  have hmL:((List.map (AV.int .i64) L).length:Int)=L.length:=by simp
  generalize hM:((List.map (AV.int .i64) L).length:Int)=M at *
  have d1:0 ≤ k / M:=Int.ediv_nonneg h3 (by omega)
  have d2:k / M ≤ k:=Int.ediv_le_self _ h3
  have d3:0 ≤ k % M:=Int.emod_nonneg k (by omega)
  have d4:k % M < M:=Int.emod_lt_of_pos k hm0
  have d5:k % M ≤ k:=by
   have q1:=Int.mul_ediv_add_emod k M
   have q2:0 ≤ M * (k / M):=Int.mul_nonneg (by omega) d1
   omega
  have d6:0 ≤ k / M * (7919+k % M):=Int.mul_nonneg d1 (by omega)
  have d7:k / M * (7919+k % M) ≤ 1000000 * 1007919:=Int.mul_le_mul (by omega) (by omega) (by omega) (by omega)
  refine ⟨by omega,by omega,by omega,by omega,?_⟩
  refine goW (N:=64) Tryz.ntmps23 200 ?_
  simp only [go_sem,xint,hw,hk,hwk,hM]
  refine adraw [] mixed (by decide) (N:=64) Tryz.ntmps23 (by decide) 100 ?_
  simp only [go_sem,xint,hw,hk,hwk,hM]
  refine ⟨by omega,by omega,by omega,by omega,by omega,by omega,?_⟩
  have hx:∃ x,(List.map (AV.int .i64) L).getD (k % M).toNat .any=.int .i64 x:=by
   have:(k % M).toNat < L.length:=by omega
   exact ⟨L[(k % M).toNat],by simp [List.getD,this]⟩
  have hxv:(List.map (AV.int .i64) L).getD (k % M).toNat .any=.int .i64 (L.getD (k % M).toNat 0):=by
   have:(k % M).toNat < L.length:=by omega
   simp [List.getD,this]
  clear hx
  have hx:=hxv
  have hnx:nx L k n=(IntKind.i64.wrap (L.getD (k % M).toNat 0 % 1073741824+IntKind.i64.wrap (k / M * IntKind.i64.wrap (7919+k % M)))) % n:=by
   unfold nx
   rw [if_neg (by omega),← hmL]
  generalize L.getD (k % M).toNat 0=x at *
  have f1:0 ≤ x % 1073741824:=Int.emod_nonneg x (by omega)
  have f2:x % 1073741824 < 1073741824:=Int.emod_lt_of_pos x (by omega)
  refine goW (N:=64) Tryz.ntmps23 200 ?_
  simp only [go_sem,xint,hw,hk,hwk,hM,hx]
  refine ⟨by omega,by omega,by simp; omega,?_⟩
  refine pcall1 (below_pc _ _ (by omega) (by omega)) rfl (N:=64) Tryz.ntmps23 rfl (goW (N:=64) Tryz.ntmps23 200 ?_)
  simp only [go_sem,xint]
  refine pcall1 (below_pc _ n h1 h2) rfl (N:=64) Tryz.ntmps23 rfl (goW (N:=64) Tryz.ntmps23 200 ?_)
  simp only [go_sem,xint]
  exact aret [4] rfl ⟨_,_,rfl,by rw [hnx]; rfl,rfl,rfl,rfl⟩
def oneF (L:List Int) (k:Int) (ls:List (List UInt8)):List UInt8:=ls.getD (nx L k ls.length).toNat []
def flipF (L:List Int) (k n:Int):Bool:=nx L k n == 0
def pickF (L:List Int) (k:Int) (ls:List Int):Int:=ls.getD (nx L k ls.length).toNat 0
def rangeF (L:List Int) (k a b:Int):Int:=a+nx L k (b - a+1)
theorem oneF_mem {L:List Int} {k:Int} {ls:List (List UInt8)} (h:1 ≤ ls.length):oneF L k ls ∈ ls:=by
 have:=nx_bd L k ls.length (by omega)
 have hv:(nx L k ls.length).toNat < ls.length:=by omega
 unfold oneF
 simp only [List.getD,List.getElem?_eq_getElem hv,Option.getD_some]
 exact List.getElem_mem hv
theorem pickF_mem {L:List Int} {k:Int} {ls:List Int} (h:1 ≤ ls.length):pickF L k ls ∈ ls:=by
 have:=nx_bd L k ls.length (by omega)
 have hv:(nx L k ls.length).toNat < ls.length:=by omega
 unfold pickF
 simp only [List.getD,List.getElem?_eq_getElem hv,Option.getD_some]
 exact List.getElem_mem hv
theorem oneX_mc (L:List Int) (k:Int) (ls:List (List UInt8)) (h1:1 ≤ ls.length) (h2:ls.length ≤ 1000) (h3:0 ≤ k) (h4:k ≤ 1000000) :
  Mc Tryz.prog 44 2 (str L k) [.fz 1 (ls.map .str)] (fun r s=>r=.str (oneF L k ls)∧s=str L (k+1)):=by
 have hlen:((List.map AV.str ls).length:Int)=ls.length:=by simp
 have hb:=nx_bd L k ls.length (by omega)
 refine ct_intro Tryz.func44 rfl Tryz.ntmps44 hB44 (by simp) fun h ρ w=>go (N:=12) Tryz.ntmps44 300 ?_
 simp only [go_sem]
 refine mcall (nextX_mc L k _ (by omega) (by omega) h3 h4) rfl rfl (id:=0) rfl (N:=12) Tryz.ntmps44 rfl ?_
 rintro _ _ ⟨rfl,rfl⟩
 rw [hlen]
 have hv:(nx L k ls.length).toNat < ls.length:=by omega
 have hx:(List.map AV.str ls).getD (nx L k ls.length).toNat .any=.str (oneF L k ls):=by
  unfold oneF
  simp [List.getD,hv]
 refine go (N:=12) Tryz.ntmps44 300 ?_
 simp only [go_sem,hx]
 refine ⟨by omega,by omega,by simpa using hv,?_⟩
 exact aret [4] rfl ⟨_,_,rfl,rfl,rfl,rfl,rfl⟩
theorem flipX_mc (L:List Int) (k n:Int) (h1:1 ≤ n) (h2:n ≤ 1000) (h3:0 ≤ k) (h4:k ≤ 1000000) :
  Mc Tryz.prog 42 2 (str L k) [.int .i64 n] (fun r s=>r=.bool (flipF L k n)∧s=str L (k+1)):=by
 refine ct_intro Tryz.func42 rfl Tryz.ntmps42 hB42 (by simp) fun h ρ w=>go (N:=9) Tryz.ntmps42 300 ?_
 simp only [go_sem]
 refine mcall (nextX_mc L k _ (by omega) (by omega) h3 h4) rfl rfl (id:=0) rfl (N:=9) Tryz.ntmps42 rfl ?_
 rintro _ _ ⟨rfl,rfl⟩
 refine go (N:=9) Tryz.ntmps42 300 ?_
 simp only [go_sem]
 exact aret [4] rfl ⟨_,_,rfl,rfl,rfl,rfl,rfl⟩
theorem rangeX_mc (L:List Int) (k a b:Int) (h1:0 ≤ a) (h2:a ≤ b) (hb:b ≤ 1000) (h3:0 ≤ k) (h4:k ≤ 1000000) :
  Mc Tryz.prog 71 2 (str L k) [.int .i64 a,.int .i64 b] (fun r s=>r=.int .i64 (rangeF L k a b)∧s=str L (k+1)):=by
 have d:decide (b < a)=false:=by simp; omega
 have hbd:=nx_bd L k (b - a+1) (by omega)
 refine ct_intro Tryz.func71 rfl Tryz.ntmps71 hB71 (by simp) fun h ρ w=>go (N:=19) Tryz.ntmps71 300 ?_
 simp only [go_sem,d]
 refine ⟨by omega,by omega,by omega,by omega,?_⟩
 refine mcall (nextX_mc L k _ (by omega) (by omega) h3 h4) rfl rfl (id:=0) rfl (N:=19) Tryz.ntmps71 rfl ?_
 rintro _ _ ⟨rfl,rfl⟩
 refine go (N:=19) Tryz.ntmps71 300 ?_
 simp only [go_sem]
 refine ⟨by omega,by omega,?_⟩
 exact aret [6] rfl ⟨_,_,rfl,rfl,rfl,rfl,rfl⟩
theorem pickX_mc (L:List Int) (k:Int) (ls:List Int) (h1:1 ≤ ls.length) (h2:ls.length ≤ 1000) (h3:0 ≤ k) (h4:k ≤ 1000000) :
  Mc Tryz.prog 48 2 (str L k) [.fz 1 (ls.map (.int .i64))] (fun r s=>r=.int .i64 (pickF L k ls)∧s=str L (k+1)):=by
 have hlen:((List.map (AV.int .i64) ls).length:Int)=ls.length:=by simp
 have hb:=nx_bd L k ls.length (by omega)
 refine ct_intro Tryz.func48 rfl Tryz.ntmps48 hB48 (by simp) fun h ρ w=>go (N:=12) Tryz.ntmps48 300 ?_
 simp only [go_sem]
 refine mcall (nextX_mc L k _ (by omega) (by omega) h3 h4) rfl rfl (id:=0) rfl (N:=12) Tryz.ntmps48 rfl ?_
 rintro _ _ ⟨rfl,rfl⟩
 rw [hlen]
 have hv:(nx L k ls.length).toNat < ls.length:=by omega
 have hx:(List.map (AV.int .i64) ls).getD (nx L k ls.length).toNat .any=.int .i64 (pickF L k ls):=by
  unfold pickF
  simp [List.getD,hv]
 refine go (N:=12) Tryz.ntmps48 300 ?_
 simp only [go_sem,hx]
 refine ⟨by omega,by omega,by simpa using hv,?_⟩
 exact aret [4] rfl ⟨_,_,rfl,rfl,rfl,rfl,rfl⟩
def wordF (L:List Int) (k v b:Int):Nat→Nat→List UInt8→List UInt8 × Int
 | 0,i,out=>(out,k+1+i)
 | f+1,i,out=>if (i:Int) < v then
   (if (out.length:Int)+((if out=[] then oneF L (k+1+i) WordL else 32 :: oneF L (k+1+i) WordL).length:Int) > b then (out,k+1+i+1)
    else wordF L k v b f (i+1) (out++(if out=[] then oneF L (k+1+i) WordL else 32 :: oneF L (k+1+i) WordL)))
  else (out,k+1+i)
theorem wordF_ok (L:List Int) (k v b:Int) (h5:60 ≤ b):∀ (f i:Nat) (out:List UInt8),(i:Int) ≤ v→v ≤ i+f→(out.length:Int) ≤ b→(i=0→out=[])→(0 < i→TextOk wordC out)→1 ≤ v →
  TextOk wordC (wordF L k v b f i out).1∧((wordF L k v b f i out).1.length:Int) ≤ b∧k ≤ (wordF L k v b f i out).2∧(wordF L k v b f i out).2 ≤ k+1+v
 | 0,i,out,g1,g2,g3,g4,g5,g6=>⟨g5 (by omega),g3,by simp only [wordF]; omega,by simp only [wordF]; omega⟩
 | f+1,i,out,g1,g2,g3,g4,g5,g6=>by
  obtain ⟨x1,x2⟩:=word_of (oneF_mem (L:=L) (k:=k+1+i) (ls:=WordL) (by decide))
  simp only [wordF]
  generalize oneF L (k+1+i) WordL=x at *
  by_cases gi:(i:Int) < v
  ·rw [if_pos gi]
   by_cases ho:out=[]
   ·subst ho
    simp only [if_true,List.length_nil,List.nil_append]
    rw [if_neg (by omega)]
    refine wordF_ok L k v b h5 f (i+1) x (by omega) (by omega) (by omega) (by omega) (fun _=>x1) g6
   ·have i0:0 < i:=by
     rcases Nat.eq_zero_or_pos i with h | h
     ·exact absurd (g4 h) ho
     ·exact h
    simp only [if_neg ho]
    split
    ·exact ⟨g5 i0,g3,by simp only; omega,by simp only; omega⟩
    ·rename_i hgl
     refine wordF_ok L k v b h5 f (i+1) _ (by omega) (by omega) (by simp at hgl ⊢; omega) (by omega) (fun _=>(g5 i0).join rfl x1) g6
  ·rw [if_neg gi]
   exact ⟨g5 (by omega),g3,by simp only; omega,by simp only; omega⟩
def wordsF (L:List Int) (k m b:Int):List UInt8 × Int:=wordF L k (rangeF L k 1 m) b (rangeF L k 1 m).toNat 0 []
theorem wordsF_ok (L:List Int) (k m b:Int) (h1:1 ≤ m) (h2:m ≤ 80) (h5:60 ≤ b):TextOk wordC (wordsF L k m b).1∧((wordsF L k m b).1.length:Int) ≤ b∧k ≤ (wordsF L k m b).2∧(wordsF L k m b).2 ≤ k+81:=by
 have hb:=nx_bd L k (m - 1+1) (by omega)
 have hv:1 ≤ rangeF L k 1 m∧rangeF L k 1 m ≤ m:=by unfold rangeF; omega
 obtain ⟨a,b,c,d⟩:=wordF_ok L k (rangeF L k 1 m) b h5 (rangeF L k 1 m).toNat 0 [] (by omega) (by omega) (by simp; omega) (by simp) (by simp) hv.1
 exact ⟨a,b,c,by unfold wordsF; omega⟩
set_option maxHeartbeats 1000000 in
theorem wordsX_mc (L:List Int) (k m b:Int) (h1:1 ≤ m) (h2:m ≤ 80) (h5:60 ≤ b) (h6:b ≤ 2000) (h3:0 ≤ k) (h4:k ≤ 900000) :
  Mc Tryz.prog 193 2 (str L k) [.int .i64 m,.int .i64 b] (fun r s=>r=.str (wordsF L k m b).1∧s=str L (wordsF L k m b).2):=by
 have hb:=nx_bd L k (m - 1+1) (by omega)
 have hv:1 ≤ rangeF L k 1 m∧rangeF L k 1 m ≤ m:=by unfold rangeF; omega
 obtain ⟨⟨t,kk⟩,hw⟩:∃ z,z=wordsF L k m b:=⟨_,rfl⟩
 rw [← hw]
 unfold wordsF at hw
 refine ct_intro Tryz.func193 rfl Tryz.ntmps193 hB193 (by simp) fun h ρ w=>goF (N:=33) Tryz.ntmps193 300 ?_
 simp only [go_sem]
 refine mcall (rangeX_mc L k 1 m (by omega) (by omega) (by omega) h3 (by omega)) rfl rfl (id:=0) rfl (N:=33) Tryz.ntmps193 rfl ?_
 rintro _ _ ⟨rfl,rfl⟩
 generalize rangeF L k 1 m=v at *
 refine goF (N:=33) Tryz.ntmps193 300 ?_
 simp only [go_sem]
 refine aloopX (ι:=Nat × List UInt8) (κ:=Unit) (fun x=>v.toNat - x.1)
  (fun x=>[(12,.int .i64 x.1),(11,.int .i64 v),(7,.str x.2),(2,.int .i64 b),(0,.ptr 0 1 0 0)])
  (fun x=>[.arr 2 [str L (k+1+x.1)]])
  (fun x=>(x.1:Int) ≤ v∧(x.2.length:Int) ≤ b∧wordF L k v b (v.toNat - x.1) x.1 x.2=(t,kk))
  (fun x=>[(7,.str t),(0,.ptr 0 1 0 0)]) (fun x=>[.arr 2 [str L kk]])
  (fun x=>True)
  (0,[]) ⟨by simp only; omega,by simp; omega,by simpa using hw.symm⟩ ?_ ?_ ?_
 ·have h0:k+1+((0:Nat):Int)=k+1:=by omega
  simp only [h0]
  refine Shift.weak ?_
  simp only [wk,go_sem]
 ·rintro ⟨⟩ _
  refine go (N:=33) Tryz.ntmps193 300 ?_
  simp only [go_sem]
  exact aret [6] rfl ⟨_,_,rfl,rfl,rfl,rfl,rfl⟩
 ·rintro ⟨i,u⟩ ⟨g1,g2,g3⟩ J Q hJ hQ
  simp only at g1 g2 g3 hJ hQ ⊢
  refine goF (N:=33) Tryz.ntmps193 300 ?_
  by_cases gi:(i:Int) < v
  ·have d1:decide ((i:Int) < v)=true:=by simp; omega
   have e0:v.toNat - i=(v.toNat - (i+1))+1:=by omega
   have hx:=word_of (oneF_mem (L:=L) (k:=k+1+i) (ls:=WordL) (by decide))
   rw [e0] at g3
   simp only [wordF,if_pos gi] at g3
   have ho:=oneX_mc L (k+1+i) WordL (by decide) (by decide) (by omega) (by omega)
   generalize oneF L (k+1+i) WordL=x at *
   obtain ⟨x1,x2⟩:=hx
   simp only [go_sem,d1]
   refine mcall (ho) rfl rfl (id:=0) rfl (N:=33) Tryz.ntmps193 rfl ?_
   rintro _ _ ⟨rfl,rfl⟩
   have e1:k+1+(i:Int)+1=k+1+((i+1:Nat):Int):=by omega
   by_cases ht:u=[]
   ·subst ht
    have d3:decide (((0:Nat):Int)+(x.length:Int) > b)=false:=by simp; omega
    simp only [if_true,List.length_nil,List.nil_append] at g3
    rw [if_neg (by omega)] at g3
    refine goF (N:=33) Tryz.ntmps193 300 ?_
    simp only [go_sem,d3]
    refine ⟨by omega,by omega,fun gl=>(by simp at gl; omega),fun gl=>?_⟩
    repeat refine And.intro (by omega) ?_
    rw [e1,show (i:Int)+1=((i+1:Nat):Int) by omega]
    refine ainv (hJ (i+1,x) ⟨by simp only; omega,by simp only; omega,g3⟩ (by simp only; omega)) (Shift.weak ?_)
    simp only [wk,go_sem]
   ·have d2:(u != [])=true:=by simp [ht]
    have d2':(u == [])=false:=by simp [ht]
    simp only [if_neg ht] at g3
    refine goF (N:=33) Tryz.ntmps193 300 ?_
    simp only [go_sem,d2,d2']
    repeat refine And.intro (by omega) ?_
    refine ⟨fun gl=>?_,fun gl=>?_⟩
    ·rw [if_pos (by simp at gl ⊢; omega)] at g3
     injection g3 with g3 g4
     rw [← g3,← g4] at hQ
     refine ainv (hQ () trivial) (Shift.weak ?_)
     simp only [wk,go_sem]
    ·rw [if_neg (by simp at gl ⊢; omega)] at g3
     repeat refine And.intro (by omega) ?_
     rw [e1,show (i:Int)+1=((i+1:Nat):Int) by omega]
     refine ainv (hJ (i+1,u++32 :: x) ⟨by simp only; omega,by simp at gl ⊢; omega,g3⟩ (by simp only; omega)) (Shift.weak ?_)
     simp only [wk,go_sem]
  ·have d1:decide ((i:Int) < v)=false:=by simp; omega
   have e0:v.toNat - i=0:=by omega
   rw [e0] at g3
   simp only [wordF] at g3
   injection g3 with g3 g4
   rw [← g3,← g4] at hQ
   simp only [go_sem,d1]
   refine ainv (hQ () trivial) (Shift.weak ?_)
   simp only [wk,go_sem]
end Go.Proofs.YtnfkjpihaficbaaGreatDoor
