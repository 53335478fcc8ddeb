/- Draws: numbers of scenes in a story; any right script. Own work of this seat. -/
import Derived.Test.YtnfkjpihaficbaaGreatDoorH23
set_option maxRecDepth 100000
set_option linter.unusedSimpArgs false
set_option linter.unusedVariables false
namespace Go.Proofs.YtnfkjpihaficbaaGreatDoor
open Go Go.Av Go.RowKit
def DIG:List UInt8:=[48,49,50,51,52,53,54,55,56,57]
def CAPS:List UInt8:=[65,66,67,68,69,70,71,72,73,74,75,76,77,78,79,80,81,82,83,84,85,86,87,88,89,90]
theorem atoi0_pch {S:Std} (hS:LibOk S):PcH Tryz.prog S 94 [.str []] (· = .tup [.int .i64 0,.any]):=by
 refine ⟨hB94,fun h w vs' hg hm hv=>?_⟩
 have:=one_str [] h vs' hv
 subst this
 obtain ⟨te,pe,t,z,hs⟩:=hS.syn
 have hcell:w.cell? ⟨Tryz.laysC172_ren.g 15,0,none⟩=some (.iface te pe):=(Lib.cell_of_heap (hg _ _ hs) 0).trans rfl
 refine (Any.strconv_Atoi_err Tryz.laysC172 ⟨#[]⟩ (by decide) rfl (.iface te pe) w hcell (.inr ⟨te,pe,rfl⟩)).mono ?_
 rintro e w' ⟨N,rfl,_,_,hb⟩
 have hs:Same w w':=same_below hb
 exact ⟨_,_,h,rfl,rfl,fun b o v e=>⟨hs.cell (hm b o v e).1,(hm b o v e).2⟩,fun _ _ _ x=>x,fun b o e n=>(n e).elim,hs,.tup [_,_] [_,_] (.cons (.int _ _) (.cons (.any _) .nil))⟩
theorem halved_pc (s:List UInt8) (hs:s.length < 1000000) (h0:Lib.trimLeftS s DIG=[]):Pc Tryz.prog 93 [.str s] (· = .tup [.str s,.str []]):=by
 refine pc_intro (ct_intro Tryz.func93 rfl Tryz.ntmps93 hB93 (by simp) fun h ρ w=>go (N:=15) Tryz.ntmps93 300 ?_)
 simp only [go_sem]
 refine pcall1 (trimLeft_pc s DIG (by decide) (ascii_set (by decide))) rfl (N:=15) Tryz.ntmps93 rfl (go (N:=15) Tryz.ntmps93 300 ?_)
 rw [h0]
 have:List.take s.length s=s:=List.take_length
 simp only [go_sem,this]
 refine ⟨by omega,by omega,by omega,by omega,?_⟩
 refine aret [2,3] rfl ⟨?_,rfl⟩
 simp [resV,Av.get]
theorem long_pc (s:List UInt8) (a b:Int) (h1:a ≤ s.length) (h2:s.length ≤ b):Pc Tryz.prog 75 [.str s,.int .i64 a,.int .i64 b] (· = .bool true):=by
 have d1:decide ((s.length:Int) ≥ a)=true:=by simpa using h1
 have d2:decide ((s.length:Int) ≤ b)=true:=by simpa using h2
 refine pc_intro (ct_intro Tryz.func75 rfl Tryz.ntmps75 hB75 (by simp) fun h ρ w=>go (N:=17) Tryz.ntmps75 300 ?_)
 simp only [go_sem,d1,d2]
 exact aret [6] rfl ⟨rfl,rfl⟩
theorem made_nil:Pc Tryz.prog 77 [.str [],.str CAPS] (· = .bool true):=by
 refine pc_intro (ct_intro Tryz.func77 rfl Tryz.ntmps77 hB77 (by simp) fun h ρ w=>go (N:=9) Tryz.ntmps77 300 ?_)
 simp only [go_sem]
 refine pcall1 (trim_pc [] CAPS (by decide) (by decide) (ascii_set (by decide))) rfl (N:=9) Tryz.ntmps77 rfl (go (N:=9) Tryz.ntmps77 300 ?_)
 rw [show Lib.trimS [] CAPS=[] from rfl]
 simp only [go_sem]
 exact aret [4] rfl ⟨rfl,rfl⟩
theorem numberOf_pc (s:List UInt8) (h0:Lib.trimLeftS s DIG=[]) (h1:1 ≤ s.length) (h2:s.length ≤ 3) (h3:s.getD 0 0 ≠ 48):Pc Tryz.prog 96 [.str s] (· = .bool true):=by
 have d3:(((s.getD 0 0).toNat:Int) != 48)=true:=by
  simp only [bne_iff_ne,ne_eq]
  intro e
  exact h3 (UInt8.toNat_inj.1 (by simpa using (show (s.getD 0 0).toNat=48 by omega)))
 refine pc_intro (ct_intro Tryz.func96 rfl Tryz.ntmps96 hB96 (by simp) fun h ρ w=>go (N:=38) Tryz.ntmps96 300 ?_)
 simp only [go_sem]
 refine pcall1 (halved_pc s (by omega) h0) rfl (N:=38) Tryz.ntmps96 rfl (go (N:=38) Tryz.ntmps96 300 ?_)
 simp only [go_sem]
 refine pcall1 (long_pc s 1 3 (by omega) (by omega)) rfl (N:=38) Tryz.ntmps96 rfl (go (N:=38) Tryz.ntmps96 300 ?_)
 simp only [go_sem]
 refine pcall1 (made_nil) rfl (N:=38) Tryz.ntmps96 rfl (go (N:=38) Tryz.ntmps96 300 ?_)
 simp only [go_sem]
 refine pcall1 (hasSuffix_pc [] [65] (by simp)) rfl (N:=38) Tryz.ntmps96 rfl (go (N:=38) Tryz.ntmps96 300 ?_)
 rw [show Lib.hasSuffix [] [65]=false from rfl]
 simp only [go_sem,d3]
 refine ⟨by omega,?_⟩
 exact aret [2] rfl ⟨rfl,rfl⟩
theorem order9_pc (s:List UInt8) (m:Int) (h0:Lib.trimLeftS s DIG=[]) (h1:s.length ≤ 18) (h2:Lib.atoi s=some m):Pc Tryz.prog 97 [.str s,.str [57]] (· = .int .i64 (orI (cmpI m 9) 0)):=by
 refine pc_intro (ct_intro Tryz.func97 rfl Tryz.ntmps97 hB97 (by simp) fun h ρ w=>goF (N:=41) Tryz.ntmps97 300 ?_)
 simp only [go_sem]
 refine pcall1 (halved_pc s (by omega) h0) rfl (N:=41) Tryz.ntmps97 rfl (goF (N:=41) Tryz.ntmps97 300 ?_)
 simp only [go_sem]
 refine pcall1 (halved_pc [57] (by simp) rfl) rfl (N:=41) Tryz.ntmps97 rfl (goF (N:=41) Tryz.ntmps97 300 ?_)
 simp only [go_sem]
 refine pcall1 (atoi_pc s m h1 h2) rfl (N:=41) Tryz.ntmps97 rfl (goF (N:=41) Tryz.ntmps97 300 ?_)
 simp only [go_sem]
 refine pcall1 (atoi_pc [57] 9 (by simp) rfl) rfl (N:=41) Tryz.ntmps97 rfl (goF (N:=41) Tryz.ntmps97 300 ?_)
 simp only [go_sem]
 refine pcall1 (cmp_int_pc m 9) rfl (N:=41) Tryz.ntmps97 rfl (goF (N:=41) Tryz.ntmps97 300 ?_)
 simp only [go_sem]
 refine pcall1 (compare_str_pc [] []) rfl (N:=41) Tryz.ntmps97 rfl (goF (N:=41) Tryz.ntmps97 300 ?_)
 rw [show Lib.compareBytes [] []=0 from rfl]
 simp only [go_sem]
 refine pcall1 (or_pc (cmpI m 9) 0) rfl (N:=41) Tryz.ntmps97 rfl (goF (N:=41) Tryz.ntmps97 300 ?_)
 simp only [go_sem]
 exact aret [4] rfl ⟨rfl,rfl⟩
def lastL (n:Nat):List UInt8:=if n=0 then [] else dig3 n
theorem last_facts (j:Nat) (hj:j < 5):Lib.trimLeftS (lastL j) DIG=[]∧(lastL j).length ≤ 3∧(j ≠ 0→Lib.atoi (lastL j)=some (j:Int)) ∧
  Lib.trimLeftS (dig3 ((j:Int)+1)) DIG=[]∧(dig3 ((j:Int)+1)).length=1∧(dig3 ((j:Int)+1)).getD 0 0 ≠ 48∧Lib.atoi (dig3 ((j:Int)+1))=some ((j:Int)+1)∧(dig3 ((j:Int)+1) == [])=false∧lastL (j+1)=dig3 ((j:Int)+1):=by
 have:j=0∨j=1∨j=2∨j=3∨j=4:=by omega
 rcases this with rfl | rfl | rfl | rfl | rfl <;> exact ⟨by decide,by decide,by decide,by decide,by decide,by decide,by decide,by decide,by decide⟩
set_option maxHeartbeats 1000000 in
theorem betweenOf_pch {S:Std} (hS:LibOk S) (j:Nat) (hj:j < 5) (b:List UInt8) (hb:b=[]∨b=[57]):PcH Tryz.prog S 43 [.str (lastL j),.str b] (· = .tup [.str (lastL (j+1)),.bool true]):=by
 obtain ⟨f1,f2,f3,f4,f5,f6,f7,f8,f9⟩:=last_facts j hj
 rw [f9]
 have hit:=itoa_pch hS ((j:Int)+1) (by omega) (by omega)
 rw [itoa_dig3 (by omega) (by omega)] at hit
 have ho:=order9_pc (dig3 ((j:Int)+1)) ((j:Int)+1) f4 (by omega) f7
 have hc:orI (cmpI ((j:Int)+1) 9) 0=-1:=by
  have:cmpI ((j:Int)+1) 9=-1:=by unfold cmpI; rw [if_pos (by omega)]
  rw [this]; rfl
 rw [hc] at ho
 have hn:=numberOf_pc (dig3 ((j:Int)+1)) f4 (by omega) (by omega) f6
 generalize dig3 ((j:Int)+1)=x at *
 refine pch_intro (cth_intro Tryz.func43 rfl Tryz.ntmps43 hB43 (by simp) fun h ρ w hg=>go (N:=88) Tryz.ntmps43 300 ?_)
 simp only [go_sem]
 refine pcall1 (halved_pc (lastL j) (by omega) f1) rfl (N:=88) Tryz.ntmps43 rfl (go (N:=88) Tryz.ntmps43 300 ?_)
 simp only [go_sem]
 by_cases h0:j=0
 ·subst h0
  refine pcallH1 hg (atoi0_pch hS) rfl (N:=88) Tryz.ntmps43 rfl (go (N:=88) Tryz.ntmps43 300 ?_)
  simp only [go_sem]
  refine aenter (around (go (N:=88) Tryz.ntmps43 300 ?_))
  simp only [go_sem]
  refine pcallH1 hg (hit) rfl (N:=88) Tryz.ntmps43 rfl (go (N:=88) Tryz.ntmps43 300 ?_)
  simp only [go_sem]
  refine ⟨.inl trivial,?_⟩
  refine aenter (around (go (N:=88) Tryz.ntmps43 300 ?_))
  simp only [go_sem]
  refine pcall1 (hn) rfl (N:=88) Tryz.ntmps43 rfl (go (N:=88) Tryz.ntmps43 300 ?_)
  simp only [go_sem]
  rcases hb with rfl | rfl
  ·simp only [go_sem]
   exact aret [4,5] rfl ⟨rfl,rfl⟩
  ·simp only [go_sem]
   refine pcall1 (ho) rfl (N:=88) Tryz.ntmps43 rfl (go (N:=88) Tryz.ntmps43 300 ?_)
   simp only [go_sem]
   exact aret [4,5] rfl ⟨rfl,rfl⟩
 ·refine pcall1 (atoi_pc (lastL j) j (by omega) (f3 h0)) rfl (N:=88) Tryz.ntmps43 rfl (go (N:=88) Tryz.ntmps43 300 ?_)
  simp only [go_sem]
  refine aenter (around (go (N:=88) Tryz.ntmps43 300 ?_))
  simp only [go_sem]
  refine ⟨by omega,by omega,?_⟩
  refine pcallH1 hg (hit) rfl (N:=88) Tryz.ntmps43 rfl (go (N:=88) Tryz.ntmps43 300 ?_)
  simp only [go_sem]
  refine ⟨.inl trivial,?_⟩
  refine aenter (around (go (N:=88) Tryz.ntmps43 300 ?_))
  simp only [go_sem]
  refine pcall1 (hn) rfl (N:=88) Tryz.ntmps43 rfl (go (N:=88) Tryz.ntmps43 300 ?_)
  simp only [go_sem]
  rcases hb with rfl | rfl
  ·simp only [go_sem]
   exact aret [4,5] rfl ⟨rfl,rfl⟩
  ·simp only [go_sem]
   refine pcall1 (ho) rfl (N:=88) Tryz.ntmps43 rfl (go (N:=88) Tryz.ntmps43 300 ?_)
   simp only [go_sem]
   exact aret [4,5] rfl ⟨rfl,rfl⟩
def blkS (L:List Int) (k:Int):Blk:=.arr 2 [str L k]
def blkZ:Blk:=.arr 2 [.agg [.str [],.raw (.slice none 0 0)]]
set_option maxHeartbeats 2000000 in
theorem numbered_cth {S:Std} (hS:LibOk S) (L:List Int) (k:Int) (ti:List UInt8) (x:Sc) (xs:List Sc) (hl:xs.length ≤ 1000) :
  CtH Tryz.prog S 40 [srA ⟨ti,x :: xs⟩] [blkS L k,blkZ] (fun r s=>r=.agg [.str ti,.sl 4 0 (xs.length+1) (xs.length+1)] ∧
   s=[blkS L k,blkZ,.arr 2 [srA ⟨ti,x :: xs⟩],.arr 2 [.agg [.str ti,.sl 4 0 (xs.length+1) (xs.length+1)]],.arr 5 ((numL 0 (x :: xs)).map scA),.arr 2 [.agg [.str ti,.sl 4 0 (xs.length+1) (xs.length+1)]]]):=by
 simp only [srA]
 refine cth_intro Tryz.func40 rfl Tryz.ntmps40 hB40 (by simp) fun h ρ w hg=>go (N:=27) Tryz.ntmps40 300 ?_
 simp only [go_sem]
 refine AWp.shift (Shift.reserve 5) ?_
 refine adrawI [4] 4 [] mixed (by decide) (N:=27) Tryz.ntmps40 (by decide) 100 ?_
 simp only [go_sem]
 have hfro:(flat ((x :: xs).map scA)).all Av.frozen=true:=frozen_scenes (x :: xs)
 refine icall_new (clone_ct x xs (by omega)) (by simp) (by simp) rfl hfro rfl ?_
 simp only [go_sem]
 refine go (N:=27) Tryz.ntmps40 300 ?_
 simp only [go_sem]
 refine ⟨by simp,?_⟩
 have hnum:∃ out,numL 0 (x :: xs)=out:=⟨_,rfl⟩
 obtain ⟨out,hout⟩:=hnum
 rw [hout]
 refine aloop (ι:=List Sc × List Sc) (fun y=>y.2.length)
  (fun y=>[(14,.int .i64 y.1.length),(13,.int .i64 ↑(xs.length+1)),(3,.ptr 5 1 0 0),(2,.ptr 3 1 0 0)])
  (fun y=>[blkS L k,blkZ,.arr 2 [.agg [.str ti,.fz 5 (scA x :: List.map scA xs)]],.arr 2 [.agg [.str [],.raw (.slice none 0 0)]],.arr 5 (List.map scA (y.1++y.2)),.arr 2 [.agg [.str ti,.sl 4 0 (xs.length+1) (xs.length+1)]]])
  (fun y=>y.1.length+y.2.length=xs.length+1∧y.1++numL y.1.length y.2=out) ([],x :: xs) ⟨by simp,hout⟩ ?_ ?_
 ·refine Shift.weak ?_
  simp only [wk,go_sem]
 ·rintro ⟨dn,rest⟩ ⟨g1,g2⟩ J hJ
  simp only at g1 g2 hJ ⊢
  cases rest with
  | cons y r =>
   have di:decide ((dn.length:Int) < ((xs.length+1:Nat):Int))=true:=by simp at g1 ⊢; omega
   refine go (N:=27) Tryz.ntmps40 300 ?_
   simp only [go_sem,di]
   refine adraw [.str (Lib.itoa ((dn.length:Int)+1))] mixed (by decide) (N:=27) Tryz.ntmps40 (by decide) 100 ?_
   have hx:List.getD (List.map scA (dn++y :: r)) dn.length .any=.agg [.str y.no,.int .i64 y.place,.str y.set,.int .i64 y.time,.fz 2 (y.paras.map paA)]:=by simp [List.getD,scA]
   simp only [go_sem,hx]
   refine ⟨by omega,by omega,(itoa_pch hS _ (by omega) (by omega)).at hg,rfl,by simp at g1 ⊢; omega,by omega,by simp at g1 ⊢; omega,by omega,by simp,?_⟩
   have hset:(List.map scA (dn++y :: r)).set dn.length (.agg [.str (Lib.itoa ((dn.length:Int)+1)),.int .i64 y.place,.str y.set,.int .i64 y.time,.fz 2 (y.paras.map paA)])=List.map scA ((dn++[nm dn.length y])++r):=by
    simp [nm,scA]
   rw [hset]
   refine go (N:=27) Tryz.ntmps40 300 ?_
   simp only [go_sem]
   refine ⟨by omega,by omega,?_⟩
   rw [show (dn.length:Int)+1=((dn++[nm dn.length y]).length:Int) by simp]
   refine ainv (hJ (dn++[nm dn.length y],r) ⟨by simp at g1 ⊢; omega,by rw [← g2]; simp [numL]⟩ (by simp)) (Shift.weak ?_)
   simp only [wk,go_sem]
  | nil =>
   simp only [List.append_nil,numL] at g2 ⊢
   subst g2
   have hn:dn.length=xs.length+1:=by simpa using g1
   have di:decide ((dn.length:Int) < ((xs.length+1:Nat):Int))=false:=by simp; omega
   refine go (N:=27) Tryz.ntmps40 300 ?_
   simp only [go_sem,di]
   exact aretc [.cell 2 28] rfl [_] ⟨by simp only [go_sem,sideIs],trivial⟩ ⟨rfl,rfl⟩
theorem num_last (i:Nat) (hi:i < 5):Lib.itoa ((i:Int)+1)=lastL (i+1):=by
 rw [itoa_dig3 (by omega) (by omega)]
 exact (last_facts i hi).2.2.2.2.2.2.2.2.symm
theorem numL_len:∀ (i:Nat) (xs:List Sc),(numL i xs).length=xs.length
 | _,[]=>rfl
 | i,x :: r=>by simp [numL,numL_len (i+1) r]
theorem numL_get:∀ (xs:List Sc) (i j:Nat) (h:j < xs.length),(numL i xs)[j]? = some (nm (i+j) xs[j])
 | [],i,j,h=>by simp at h
 | x :: r,i,0,h=>by simp [numL]
 | x :: r,i,j+1,h=>by
  simp only [numL,List.getElem?_cons_succ,List.getElem_cons_succ]
  rw [numL_get r (i+1) j (by simpa using h)]
  congr 2
  omega
theorem set_same {α:Type} {l:List α} {i:Nat} {a:α} (h:l[i]? = some a):l.set i a=l:=by
 apply List.ext_getElem?
 intro j
 rw [List.getElem?_set]
 split
 ·rename_i hj
  subst hj
  split
  ·exact h.symm
  ·rename_i hn
   rw [List.getElem?_eq_none (by omega)] at h
   cases h
 ·rfl
def nx (L:List Int) (k n:Int):Int:=if L.length=0 then (IntKind.i64.wrap ((k+1) * 7919)) % n else (IntKind.i64.wrap (L.getD (k % L.length).toNat 0 % 1073741824+IntKind.i64.wrap (k / L.length * IntKind.i64.wrap (7919+k % L.length)))) % n
theorem nx_bd (L:List Int) (k n:Int) (h:1 ≤ n):0 ≤ nx L k n∧nx L k n < n:=by
 unfold nx
 split
 ·exact ⟨Int.emod_nonneg _ (by omega),Int.emod_lt_of_pos _ (by omega)⟩
 ·exact ⟨Int.emod_nonneg _ (by omega),Int.emod_lt_of_pos _ (by omega)⟩
theorem nextX_mc (L:List Int) (k n:Int) (h1:1 ≤ n) (h2:n ≤ 9223372036854775807) (h3:0 ≤ k) (h4:k ≤ 1000000) :
  Mc Tryz.prog 23 2 (str L k) [.int .i64 n] (fun r s=>r=.int .i64 (nx L k n)∧s=str L (k+1)):=by
 refine ct_intro Tryz.func23 rfl Tryz.ntmps23 hB23 (by simp) fun h ρ w=>goW (N:=64) Tryz.ntmps23 200 ?_
 have hw:IntKind.i64.wrap (k+1)=k+1:=IntWalk.i64_in _ ⟨by omega,by omega⟩
 have hk:k+1 - 1=k:=by omega
 have hwk:IntKind.i64.wrap k=k:=IntWalk.i64_in _ ⟨by omega,by omega⟩
 have fin:∀ x:Int,0 ≤ x % n∧x % n < n:=fun x=>⟨Int.emod_nonneg x (by omega),Int.emod_lt_of_pos x (by omega)⟩
 simp only [go_sem,xint,str,hw]
 refine ⟨fun h5=>?_,fun h5=>?_⟩
 ·refine pcall1 (below_pc _ n h1 h2) rfl (N:=64) Tryz.ntmps23 rfl (goW (N:=64) Tryz.ntmps23 200 ?_)
  simp only [go_sem,xint]
  have hL0:L.length=0:=by first | (simpa using h5) | omega
  exact aret [4] rfl ⟨_,_,rfl,by unfold nx; rw [if_pos hL0]; rfl,rfl,rfl,rfl⟩
 ·refine adraw [] mixed (by decide) (N:=64) Tryz.ntmps23 (by decide) 100 ?_
  simp only [go_sem,xint,hw,hk,hwk]
  have hm0:0 < ((List.map (AV.int .i64) L).length:Int):=by omega
  have hmL:((List.map (AV.int .i64) L).length:Int)=L.length:=by simp
  generalize hM:((List.map (AV.int .i64) L).length:Int)=M at *
  have d1:0 ≤ k / M:=Int.ediv_nonneg h3 (by omega)
  have d2:k / M ≤ k:=Int.ediv_le_self _ h3
  have d3:0 ≤ k % M:=Int.emod_nonneg k (by omega)
  have d4:k % M < M:=Int.emod_lt_of_pos k hm0
  have d5:k % M ≤ k:=by
   have q1:=Int.mul_ediv_add_emod k M
   have q2:0 ≤ M * (k / M):=Int.mul_nonneg (by omega) d1
   omega
  have d6:0 ≤ k / M * (7919+k % M):=Int.mul_nonneg d1 (by omega)
  have d7:k / M * (7919+k % M) ≤ 1000000 * 1007919:=Int.mul_le_mul (by omega) (by omega) (by omega) (by omega)
  refine ⟨by omega,by omega,by omega,by omega,?_⟩
  refine goW (N:=64) Tryz.ntmps23 200 ?_
  simp only [go_sem,xint,hw,hk,hwk,hM]
  refine adraw [] mixed (by decide) (N:=64) Tryz.ntmps23 (by decide) 100 ?_
  simp only [go_sem,xint,hw,hk,hwk,hM]
  refine ⟨by omega,by omega,by omega,by omega,by omega,by omega,?_⟩
  have hx:∃ x,(List.map (AV.int .i64) L).getD (k % M).toNat .any=.int .i64 x:=by
   have:(k % M).toNat < L.length:=by omega
   exact ⟨L[(k % M).toNat],by simp [List.getD,this]⟩
  have hxv:(List.map (AV.int .i64) L).getD (k % M).toNat .any=.int .i64 (L.getD (k % M).toNat 0):=by
   have:(k % M).toNat < L.length:=by omega
   simp [List.getD,this]
  clear hx
  have hx:=hxv
  have hnx:nx L k n=(IntKind.i64.wrap (L.getD (k % M).toNat 0 % 1073741824+IntKind.i64.wrap (k / M * IntKind.i64.wrap (7919+k % M)))) % n:=by
   unfold nx
   rw [if_neg (by omega),← hmL]
  generalize L.getD (k % M).toNat 0=x at *
  have f1:0 ≤ x % 1073741824:=Int.emod_nonneg x (by omega)
  have f2:x % 1073741824 < 1073741824:=Int.emod_lt_of_pos x (by omega)
  refine goW (N:=64) Tryz.ntmps23 200 ?_
  simp only [go_sem,xint,hw,hk,hwk,hM,hx]
  refine ⟨by omega,by omega,by simp; omega,?_⟩
  refine pcall1 (below_pc _ _ (by omega) (by omega)) rfl (N:=64) Tryz.ntmps23 rfl (goW (N:=64) Tryz.ntmps23 200 ?_)
  simp only [go_sem,xint]
  refine pcall1 (below_pc _ n h1 h2) rfl (N:=64) Tryz.ntmps23 rfl (goW (N:=64) Tryz.ntmps23 200 ?_)
  simp only [go_sem,xint]
  exact aret [4] rfl ⟨_,_,rfl,by rw [hnx]; rfl,rfl,rfl,rfl⟩
def oneF (L:List Int) (k:Int) (ls:List (List UInt8)):List UInt8:=ls.getD (nx L k ls.length).toNat []
def flipF (L:List Int) (k n:Int):Bool:=nx L k n == 0
def pickF (L:List Int) (k:Int) (ls:List Int):Int:=ls.getD (nx L k ls.length).toNat 0
def rangeF (L:List Int) (k a b:Int):Int:=a+nx L k (b - a+1)
theorem oneF_mem {L:List Int} {k:Int} {ls:List (List UInt8)} (h:1 ≤ ls.length):oneF L k ls ∈ ls:=by
 have:=nx_bd L k ls.length (by omega)
 have hv:(nx L k ls.length).toNat < ls.length:=by omega
 unfold oneF
 simp only [List.getD,List.getElem?_eq_getElem hv,Option.getD_some]
 exact List.getElem_mem hv
theorem pickF_mem {L:List Int} {k:Int} {ls:List Int} (h:1 ≤ ls.length):pickF L k ls ∈ ls:=by
 have:=nx_bd L k ls.length (by omega)
 have hv:(nx L k ls.length).toNat < ls.length:=by omega
 unfold pickF
 simp only [List.getD,List.getElem?_eq_getElem hv,Option.getD_some]
 exact List.getElem_mem hv
theorem oneX_mc (L:List Int) (k:Int) (ls:List (List UInt8)) (h1:1 ≤ ls.length) (h2:ls.length ≤ 1000) (h3:0 ≤ k) (h4:k ≤ 1000000) :
  Mc Tryz.prog 44 2 (str L k) [.fz 1 (ls.map .str)] (fun r s=>r=.str (oneF L k ls)∧s=str L (k+1)):=by
 have hlen:((List.map AV.str ls).length:Int)=ls.length:=by simp
 have hb:=nx_bd L k ls.length (by omega)
 refine ct_intro Tryz.func44 rfl Tryz.ntmps44 hB44 (by simp) fun h ρ w=>go (N:=12) Tryz.ntmps44 300 ?_
 simp only [go_sem]
 refine mcall (nextX_mc L k _ (by omega) (by omega) h3 h4) rfl rfl (id:=0) rfl (N:=12) Tryz.ntmps44 rfl ?_
 rintro _ _ ⟨rfl,rfl⟩
 rw [hlen]
 have hv:(nx L k ls.length).toNat < ls.length:=by omega
 have hx:(List.map AV.str ls).getD (nx L k ls.length).toNat .any=.str (oneF L k ls):=by
  unfold oneF
  simp [List.getD,hv]
 refine go (N:=12) Tryz.ntmps44 300 ?_
 simp only [go_sem,hx]
 refine ⟨by omega,by omega,by simpa using hv,?_⟩
 exact aret [4] rfl ⟨_,_,rfl,rfl,rfl,rfl,rfl⟩
theorem flipX_mc (L:List Int) (k n:Int) (h1:1 ≤ n) (h2:n ≤ 1000) (h3:0 ≤ k) (h4:k ≤ 1000000) :
  Mc Tryz.prog 42 2 (str L k) [.int .i64 n] (fun r s=>r=.bool (flipF L k n)∧s=str L (k+1)):=by
 refine ct_intro Tryz.func42 rfl Tryz.ntmps42 hB42 (by simp) fun h ρ w=>go (N:=9) Tryz.ntmps42 300 ?_
 simp only [go_sem]
 refine mcall (nextX_mc L k _ (by omega) (by omega) h3 h4) rfl rfl (id:=0) rfl (N:=9) Tryz.ntmps42 rfl ?_
 rintro _ _ ⟨rfl,rfl⟩
 refine go (N:=9) Tryz.ntmps42 300 ?_
 simp only [go_sem]
 exact aret [4] rfl ⟨_,_,rfl,rfl,rfl,rfl,rfl⟩
theorem rangeX_mc (L:List Int) (k a b:Int) (h1:0 ≤ a) (h2:a ≤ b) (hb:b ≤ 1000) (h3:0 ≤ k) (h4:k ≤ 1000000) :
  Mc Tryz.prog 71 2 (str L k) [.int .i64 a,.int .i64 b] (fun r s=>r=.int .i64 (rangeF L k a b)∧s=str L (k+1)):=by
 have d:decide (b < a)=false:=by simp; omega
 have hbd:=nx_bd L k (b - a+1) (by omega)
 refine ct_intro Tryz.func71 rfl Tryz.ntmps71 hB71 (by simp) fun h ρ w=>go (N:=19) Tryz.ntmps71 300 ?_
 simp only [go_sem,d]
 refine ⟨by omega,by omega,by omega,by omega,?_⟩
 refine mcall (nextX_mc L k _ (by omega) (by omega) h3 h4) rfl rfl (id:=0) rfl (N:=19) Tryz.ntmps71 rfl ?_
 rintro _ _ ⟨rfl,rfl⟩
 refine go (N:=19) Tryz.ntmps71 300 ?_
 simp only [go_sem]
 refine ⟨by omega,by omega,?_⟩
 exact aret [6] rfl ⟨_,_,rfl,rfl,rfl,rfl,rfl⟩
theorem pickX_mc (L:List Int) (k:Int) (ls:List Int) (h1:1 ≤ ls.length) (h2:ls.length ≤ 1000) (h3:0 ≤ k) (h4:k ≤ 1000000) :
  Mc Tryz.prog 48 2 (str L k) [.fz 1 (ls.map (.int .i64))] (fun r s=>r=.int .i64 (pickF L k ls)∧s=str L (k+1)):=by
 have hlen:((List.map (AV.int .i64) ls).length:Int)=ls.length:=by simp
 have hb:=nx_bd L k ls.length (by omega)
 refine ct_intro Tryz.func48 rfl Tryz.ntmps48 hB48 (by simp) fun h ρ w=>go (N:=12) Tryz.ntmps48 300 ?_
 simp only [go_sem]
 refine mcall (nextX_mc L k _ (by omega) (by omega) h3 h4) rfl rfl (id:=0) rfl (N:=12) Tryz.ntmps48 rfl ?_
 rintro _ _ ⟨rfl,rfl⟩
 rw [hlen]
 have hv:(nx L k ls.length).toNat < ls.length:=by omega
 have hx:(List.map (AV.int .i64) ls).getD (nx L k ls.length).toNat .any=.int .i64 (pickF L k ls):=by
  unfold pickF
  simp [List.getD,hv]
 refine go (N:=12) Tryz.ntmps48 300 ?_
 simp only [go_sem,hx]
 refine ⟨by omega,by omega,by simpa using hv,?_⟩
 exact aret [4] rfl ⟨_,_,rfl,rfl,rfl,rfl,rfl⟩
def wordF (L:List Int) (k v b:Int):Nat→Nat→List UInt8→List UInt8 × Int
 | 0,i,out=>(out,k+1+i)
 | f+1,i,out=>if (i:Int) < v then
   (if (out.length:Int)+((if out=[] then oneF L (k+1+i) WordL else 32 :: oneF L (k+1+i) WordL).length:Int) > b then (out,k+1+i+1)
    else wordF L k v b f (i+1) (out++(if out=[] then oneF L (k+1+i) WordL else 32 :: oneF L (k+1+i) WordL)))
  else (out,k+1+i)
theorem wordF_ok (L:List Int) (k v b:Int) (h5:60 ≤ b):∀ (f i:Nat) (out:List UInt8),(i:Int) ≤ v→v ≤ i+f→(out.length:Int) ≤ b→(i=0→out=[])→(0 < i→TextOk wordC out)→1 ≤ v →
  TextOk wordC (wordF L k v b f i out).1∧((wordF L k v b f i out).1.length:Int) ≤ b∧k ≤ (wordF L k v b f i out).2∧(wordF L k v b f i out).2 ≤ k+1+v
 | 0,i,out,g1,g2,g3,g4,g5,g6=>⟨g5 (by omega),g3,by simp only [wordF]; omega,by simp only [wordF]; omega⟩
 | f+1,i,out,g1,g2,g3,g4,g5,g6=>by
  obtain ⟨x1,x2⟩:=word_of (oneF_mem (L:=L) (k:=k+1+i) (ls:=WordL) (by decide))
  simp only [wordF]
  generalize oneF L (k+1+i) WordL=x at *
  by_cases gi:(i:Int) < v
  ·rw [if_pos gi]
   by_cases ho:out=[]
   ·subst ho
    simp only [if_true,List.length_nil,List.nil_append]
    rw [if_neg (by omega)]
    refine wordF_ok L k v b h5 f (i+1) x (by omega) (by omega) (by omega) (by omega) (fun _=>x1) g6
   ·have i0:0 < i:=by
     rcases Nat.eq_zero_or_pos i with h | h
     ·exact absurd (g4 h) ho
     ·exact h
    simp only [if_neg ho]
    split
    ·exact ⟨g5 i0,g3,by simp only; omega,by simp only; omega⟩
    ·rename_i hgl
     refine wordF_ok L k v b h5 f (i+1) _ (by omega) (by omega) (by simp at hgl ⊢; omega) (by omega) (fun _=>(g5 i0).join rfl x1) g6
  ·rw [if_neg gi]
   exact ⟨g5 (by omega),g3,by simp only; omega,by simp only; omega⟩
def wordsF (L:List Int) (k m b:Int):List UInt8 × Int:=wordF L k (rangeF L k 1 m) b (rangeF L k 1 m).toNat 0 []
theorem wordsF_ok (L:List Int) (k m b:Int) (h1:1 ≤ m) (h2:m ≤ 80) (h5:60 ≤ b):TextOk wordC (wordsF L k m b).1∧((wordsF L k m b).1.length:Int) ≤ b∧k ≤ (wordsF L k m b).2∧(wordsF L k m b).2 ≤ k+81:=by
 have hb:=nx_bd L k (m - 1+1) (by omega)
 have hv:1 ≤ rangeF L k 1 m∧rangeF L k 1 m ≤ m:=by unfold rangeF; omega
 obtain ⟨a,b,c,d⟩:=wordF_ok L k (rangeF L k 1 m) b h5 (rangeF L k 1 m).toNat 0 [] (by omega) (by omega) (by simp; omega) (by simp) (by simp) hv.1
 exact ⟨a,b,c,by unfold wordsF; omega⟩
set_option maxHeartbeats 1000000 in
theorem wordsX_mc (L:List Int) (k m b:Int) (h1:1 ≤ m) (h2:m ≤ 80) (h5:60 ≤ b) (h6:b ≤ 2000) (h3:0 ≤ k) (h4:k ≤ 900000) :
  Mc Tryz.prog 193 2 (str L k) [.int .i64 m,.int .i64 b] (fun r s=>r=.str (wordsF L k m b).1∧s=str L (wordsF L k m b).2):=by
 have hb:=nx_bd L k (m - 1+1) (by omega)
 have hv:1 ≤ rangeF L k 1 m∧rangeF L k 1 m ≤ m:=by unfold rangeF; omega
 obtain ⟨⟨t,kk⟩,hw⟩:∃ z,z=wordsF L k m b:=⟨_,rfl⟩
 rw [← hw]
 unfold wordsF at hw
 refine ct_intro Tryz.func193 rfl Tryz.ntmps193 hB193 (by simp) fun h ρ w=>goF (N:=33) Tryz.ntmps193 300 ?_
 simp only [go_sem]
 refine mcall (rangeX_mc L k 1 m (by omega) (by omega) (by omega) h3 (by omega)) rfl rfl (id:=0) rfl (N:=33) Tryz.ntmps193 rfl ?_
 rintro _ _ ⟨rfl,rfl⟩
 generalize rangeF L k 1 m=v at *
 refine goF (N:=33) Tryz.ntmps193 300 ?_
 simp only [go_sem]
 refine aloopX (ι:=Nat × List UInt8) (κ:=Unit) (fun x=>v.toNat - x.1)
  (fun x=>[(12,.int .i64 x.1),(11,.int .i64 v),(7,.str x.2),(2,.int .i64 b),(0,.ptr 0 1 0 0)])
  (fun x=>[.arr 2 [str L (k+1+x.1)]])
  (fun x=>(x.1:Int) ≤ v∧(x.2.length:Int) ≤ b∧wordF L k v b (v.toNat - x.1) x.1 x.2=(t,kk))
  (fun x=>[(7,.str t),(0,.ptr 0 1 0 0)]) (fun x=>[.arr 2 [str L kk]])
  (fun x=>True)
  (0,[]) ⟨by simp only; omega,by simp; omega,by simpa using hw.symm⟩ ?_ ?_ ?_
 ·have h0:k+1+((0:Nat):Int)=k+1:=by omega
  simp only [h0]
  refine Shift.weak ?_
  simp only [wk,go_sem]
 ·rintro ⟨⟩ _
  refine go (N:=33) Tryz.ntmps193 300 ?_
  simp only [go_sem]
  exact aret [6] rfl ⟨_,_,rfl,rfl,rfl,rfl,rfl⟩
 ·rintro ⟨i,u⟩ ⟨g1,g2,g3⟩ J Q hJ hQ
  simp only at g1 g2 g3 hJ hQ ⊢
  refine goF (N:=33) Tryz.ntmps193 300 ?_
  by_cases gi:(i:Int) < v
  ·have d1:decide ((i:Int) < v)=true:=by simp; omega
   have e0:v.toNat - i=(v.toNat - (i+1))+1:=by omega
   have hx:=word_of (oneF_mem (L:=L) (k:=k+1+i) (ls:=WordL) (by decide))
   rw [e0] at g3
   simp only [wordF,if_pos gi] at g3
   have ho:=oneX_mc L (k+1+i) WordL (by decide) (by decide) (by omega) (by omega)
   generalize oneF L (k+1+i) WordL=x at *
   obtain ⟨x1,x2⟩:=hx
   simp only [go_sem,d1]
   refine mcall (ho) rfl rfl (id:=0) rfl (N:=33) Tryz.ntmps193 rfl ?_
   rintro _ _ ⟨rfl,rfl⟩
   have e1:k+1+(i:Int)+1=k+1+((i+1:Nat):Int):=by omega
   by_cases ht:u=[]
   ·subst ht
    have d3:decide (((0:Nat):Int)+(x.length:Int) > b)=false:=by simp; omega
    simp only [if_true,List.length_nil,List.nil_append] at g3
    rw [if_neg (by omega)] at g3
    refine goF (N:=33) Tryz.ntmps193 300 ?_
    simp only [go_sem,d3]
    refine ⟨by omega,by omega,fun gl=>(by simp at gl; omega),fun gl=>?_⟩
    repeat refine And.intro (by omega) ?_
    rw [e1,show (i:Int)+1=((i+1:Nat):Int) by omega]
    refine ainv (hJ (i+1,x) ⟨by simp only; omega,by simp only; omega,g3⟩ (by simp only; omega)) (Shift.weak ?_)
    simp only [wk,go_sem]
   ·have d2:(u != [])=true:=by simp [ht]
    have d2':(u == [])=false:=by simp [ht]
    simp only [if_neg ht] at g3
    refine goF (N:=33) Tryz.ntmps193 300 ?_
    simp only [go_sem,d2,d2']
    repeat refine And.intro (by omega) ?_
    refine ⟨fun gl=>?_,fun gl=>?_⟩
    ·rw [if_pos (by simp at gl ⊢; omega)] at g3
     injection g3 with g3 g4
     rw [← g3,← g4] at hQ
     refine ainv (hQ () trivial) (Shift.weak ?_)
     simp only [wk,go_sem]
    ·rw [if_neg (by simp at gl ⊢; omega)] at g3
     repeat refine And.intro (by omega) ?_
     rw [e1,show (i:Int)+1=((i+1:Nat):Int) by omega]
     refine ainv (hJ (i+1,u++32 :: x) ⟨by simp only; omega,by simp at gl ⊢; omega,g3⟩ (by simp only; omega)) (Shift.weak ?_)
     simp only [wk,go_sem]
  ·have d1:decide ((i:Int) < v)=false:=by simp; omega
   have e0:v.toNat - i=0:=by omega
   rw [e0] at g3
   simp only [wordF] at g3
   injection g3 with g3 g4
   rw [← g3,← g4] at hQ
   simp only [go_sem,d1]
   refine ainv (hQ () trivial) (Shift.weak ?_)
   simp only [wk,go_sem]
end Go.Proofs.YtnfkjpihaficbaaGreatDoor
