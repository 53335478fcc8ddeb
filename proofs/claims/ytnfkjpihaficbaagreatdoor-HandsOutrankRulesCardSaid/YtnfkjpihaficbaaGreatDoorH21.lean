/- Functions of package strings, out of the library's contracts. Own work of this seat. -/
import Derived.Test.YtnfkjpihaficbaaGreatDoorH20
set_option linter.unusedSimpArgs false
set_option linter.unusedVariables false
namespace Go.Proofs.YtnfkjpihaficbaaGreatDoor
open Go Go.Av Go.RowKit
theorem pch_lib {g:Std} {f:FuncId} {args:List AV} {r:AV} (vs:List Value) (v:Value) (hb:hasBody Tryz.prog f=true) (ha:∀ h vs',RL h Lf0 true vs' args→vs'=vs) (hr:∀ h,RV h Lf0 true v r)
  (H:∀ w,Stands g w→Calls Tryz.prog f vs.toArray w fun e w'=>e=.returned v∧Same w w'):PcH Tryz.prog g f args (· = r):=by
 refine ⟨hb,fun h w vs' hg hm hv=>?_⟩
 have:=ha h vs' hv
 subst this
 refine (H w hg).mono ?_
 rintro e w' ⟨rfl,hs⟩
 exact ⟨v,r,h,rfl,rfl,fun b o v e=>⟨hs.cell (hm b o v e).1,(hm b o v e).2⟩,fun _ _ _ x=>x,fun b o e n=>(n e).elim,hs,hr h⟩
theorem pc_lib {f:FuncId} {args:List AV} {r:AV} (vs:List Value) (v:Value) (hb:hasBody Tryz.prog f=true) (ha:∀ h vs',RL h Lf0 true vs' args→vs'=vs) (hr:∀ h,RV h Lf0 true v r)
  (H:∀ w,Calls Tryz.prog f vs.toArray w fun e w'=>e=.returned v∧Same w w'):Pc Tryz.prog f args (· = r):=by
 refine ⟨hb,fun h w vs' hm hv=>?_⟩
 have:=ha h vs' hv
 subst this
 refine (H w).mono ?_
 rintro e w' ⟨rfl,hs⟩
 exact ⟨v,r,h,rfl,rfl,fun b o v e=>⟨hs.cell (hm b o v e).1,(hm b o v e).2⟩,fun _ _ _ x=>x,fun b o e n=>(n e).elim,hs,hr h⟩
theorem rv_str {h:Mem} {v:Value} {s:List UInt8} (r:RV h Lf0 true v (.str s)):v=.string ⟨s.toArray⟩:=by cases r with | str=>rfl
theorem rv_int {h:Mem} {v:Value} {k:IntKind} {n:Int} (r:RV h Lf0 true v (.int k n)):v=.int k n:=by cases r with | int=>rfl
theorem two_strs (s p:List UInt8):∀ h vs',RL h Lf0 true vs' [.str s,.str p]→vs'=[.string ⟨s.toArray⟩,.string ⟨p.toArray⟩]:=by
 intro h vs' r
 cases r with | cons r1 r=>cases r with | cons r2 r=>cases r; rw [rv_str r1,rv_str r2]
theorem hasPrefix_pc (s p:List UInt8):Pc Tryz.prog 125 [.str s,.str p] (· = .bool (Lib.hasPrefix s p)) :=
 pc_lib [_,_] (.bool (Lib.hasPrefix s p)) hB125 (two_strs s p) (fun h=>.bool _) fun w=>(Any.strings_HasPrefix Tryz.lays99 ⟨s.toArray⟩ ⟨p.toArray⟩ w).mono fun e w' ⟨h1,h2⟩=>⟨h1,h2 ▸ .refl w⟩
theorem hasSuffix_pc (s p:List UInt8) (hs:s.length ≤ 9223372036854775807):Pc Tryz.prog 146 [.str s,.str p] (· = .bool (Lib.hasSuffix s p)) :=
 pc_lib [_,_] (.bool (Lib.hasSuffix s p)) hB146 (two_strs s p) (fun h=>.bool _) fun w=>(Any.strings_HasSuffix Tryz.lays100 ⟨s.toArray⟩ ⟨p.toArray⟩ w hs).mono fun e w' ⟨h1,h2⟩=>⟨h1,h2 ▸ .refl w⟩
theorem indexByte_pc (s:List UInt8) (c:Int):Pc Tryz.prog 188 [.str s,.int .u8 c] (· = .int .i64 (Lib.indexByte s c.toNat.toUInt8)) :=
 pc_lib [.string ⟨s.toArray⟩,.int .u8 c] (.int .i64 (Lib.indexByte s c.toNat.toUInt8)) hB188 (fun h vs' r=>by cases r with | cons r1 r=>cases r with | cons r2 r=>cases r; rw [rv_str r1,rv_int r2]) (fun h=>.int _ _)
  fun w=>(Any.strings_IndexByte Tryz.lays137 ⟨s.toArray⟩ c w).mono fun e w' ⟨h1,h2⟩=>⟨h1,h2 ▸ .refl w⟩
theorem contains_pch {S:Std} (hS:LibOk S) (s p:List UInt8) (hs:s.length < 4294967281):PcH Tryz.prog S 241 [.str s,.str p] (· = .bool (Lib.contains s p)) :=
 pch_lib [_,_] (.bool (Lib.contains s p)) hB241 (two_strs s p) (fun h=>.bool _) fun w H=>(Any.strings_Contains Tryz.lays144 ⟨s.toArray⟩ ⟨p.toArray⟩ _ w hs (hS.cell.choose_spec w H)).mono fun e w' ⟨h1,h2⟩=>⟨h1,h2 ▸ .refl w⟩
def splitL (s p:List UInt8):List (List UInt8):=(Lib.splitB ⟨p.toArray⟩ 0 (Lib.countB ⟨s.toArray⟩ ⟨p.toArray⟩) ⟨s.toArray⟩).map (·.data.toList)
theorem split_pch {S:Std} (hS:LibOk S) (s p:List UInt8) (hs:s.length < 4294967281) (hp:1 ≤ p.length):PcH Tryz.prog S 99 [.str s,.str p] (· = .fz 1 (splitL s p |>.map .str)):=by
 refine ⟨hB99,fun h w vs' hg hm hv=>?_⟩
 have:=two_strs s p h vs' hv
 subst this
 refine (Any.strings_Split Tryz.lays146 (by kernel_rfl) ⟨s.toArray⟩ ⟨p.toArray⟩ _ w hs (hS.cell.choose_spec w hg) hp).mono ?_
 rintro e w' ⟨rfl,rfl⟩
 have hlen:=Lib.splitB_all ⟨p.toArray⟩ hp 0 _ ⟨s.toArray⟩ rfl
 generalize hL:Lib.splitB ⟨p.toArray⟩ 0 (Lib.countB ⟨s.toArray⟩ ⟨p.toArray⟩) ⟨s.toArray⟩=L at hlen ⊢
 have hsl:splitL s p=L.map (·.data.toList):=by rw [splitL,hL]
 have hval:L.map Value.string=(splitL s p).map sval:=by
  rw [hsl,List.map_map]; rfl
 rw [hval,← hlen,show L.length=(splitL s p).length by rw [hsl]; simp]
 have h1:∀ v ∈ (splitL s p).map sval,v.oneCell'=true:=by intro v hv; obtain ⟨x,_,rfl⟩:=List.mem_map.1 hv; rfl
 have hmine:Mine h (fun _=>none) [] w:=⟨hm,fun id blk e=>by simp at e,fun _ _=>rfl,fun i j g t t' e=>by simp at e,fun i g t e=>by simp at e⟩
 obtain ⟨m2,l2⟩:=hmine.freezeNew ((splitL s p).map sval) 9 h1
 refine ⟨_,_,Mem.add h w.heap.size ((splitL s p).map sval),rfl,rfl,m2.mem,l2.hle,fun b o e n=>?_,.alloc w _,?_⟩
 ·rcases l2.hnew b o e n with ⟨j,t,hj⟩ | hs
  ·cases hj
  ·exact hs
 ·have:=RV.fz (h:=Mem.add h w.heap.size ((splitL s p).map sval)) (Lf:=Lf0) (fl:=true) w.heap.size 0 (splitL s p).length 1 ((splitL s p).map .str) ((splitL s p).map sval) ?_ (by simp [cellsOf]) ?_ (by simp)
  ·simpa using this
  ·rw [flat_strs]
   generalize Mem.add h w.heap.size ((splitL s p).map sval)=hh
   generalize splitL s p=z
   induction z with
   | nil=>exact .nil
   | cons x z ih=>exact .cons (.str x) ih
  ·intro k v hv
   simp only [Mem.add,Nat.zero_add,if_true]
   exact hv
set_option maxRecDepth 100000
def digI (n:Int):Bool:=decide (n ≥ 48) && decide (n ≤ 57)
def capI (n:Int):Bool:=decide (n ≥ 65) && decide (n ≤ 90)
theorem isDigit_pc (n:Int):Pc Tryz.prog 154 [.int .u8 n] (· = .bool (digI n)):=by
 refine pc_intro (ct_intro Tryz.func154 rfl Tryz.ntmps154 hB154 (by simp) fun h ρ w=>go (N:=9) Tryz.ntmps154 200 ?_)
 by_cases h1:n ≥ 48
 ·have d1:decide (n ≥ 48)=true:=by simpa using h1
  simp only [go_sem,d1]
  exact aret [2] rfl ⟨by simp [resV,Av.get,digI,h1],rfl⟩
 ·have d1:decide (n ≥ 48)=false:=by simpa using h1
  simp only [go_sem,d1]
  exact aret [2] rfl ⟨by simp [resV,Av.get,digI,h1],rfl⟩
theorem isCapital_pc (n:Int):Pc Tryz.prog 155 [.int .u8 n] (· = .bool (capI n)):=by
 refine pc_intro (ct_intro Tryz.func155 rfl Tryz.ntmps155 hB155 (by simp) fun h ρ w=>go (N:=9) Tryz.ntmps155 200 ?_)
 by_cases h1:n ≥ 65
 ·have d1:decide (n ≥ 65)=true:=by simpa using h1
  simp only [go_sem,d1]
  exact aret [2] rfl ⟨by simp [resV,Av.get,capI,h1],rfl⟩
 ·have d1:decide (n ≥ 65)=false:=by simpa using h1
  simp only [go_sem,d1]
  exact aret [2] rfl ⟨by simp [resV,Av.get,capI,h1],rfl⟩
def okB (c:UInt8):Bool:=!(decide ((c.toNat:Int) < 32)) && !(decide ((c.toNat:Int) > 126))
def plainL (s:List UInt8):Bool:=s.all okB && (!Lib.hasPrefix s [32] && (!Lib.hasSuffix s [32] && !Lib.contains s [32,32]))
theorem all_take_succ {α:Type} {p:α→Bool} {s:List α} {i:Nat} (h:i < s.length) (h1:(s.take i).all p=true) (h2:p s[i]=true):(s.take (i+1)).all p=true:=by
 rw [List.take_succ_eq_append_getElem h,List.all_append,h1]
 simpa using h2
theorem all_false_at {α:Type} {p:α→Bool} {s:List α} {i:Nat} (h:i < s.length) (h2:p s[i]=false):s.all p=false:=by
 rw [List.all_eq_false]
 exact ⟨s[i],List.getElem_mem h,by simp [h2]⟩
theorem plain_pch {S:Std} (hS:LibOk S) (s:List UInt8) (hs:s.length < 1000000):PcH Tryz.prog S 186 [.str s] (· = .bool (plainL s)):=by
 refine pch_intro (cth_intro Tryz.func186 rfl Tryz.ntmps186 hB186 (by simp) fun h ρ w hg=>go (N:=33) Tryz.ntmps186 200 ?_)
 simp only [go_sem]
 refine aloop (ι:=Nat) (fun i=>s.length - i) (fun i=>[(6,.int .i64 i),(5,.int .i64 s.length),(0,.str s)]) (fun _=>[]) (fun i=>i ≤ s.length∧(s.take i).all okB=true) 0 ⟨by omega,by simp⟩ ?_ ?_
 ·refine Shift.weak ?_
  simp only [wk,go_sem]
 ·rintro i ⟨g1,g2⟩ J hJ
  refine go (N:=33) Tryz.ntmps186 200 ?_
  by_cases hi:(i:Int) < s.length
  ·have hil:i < s.length:=by omega
   have hgd:s.getD i 0=s[i]:=by simp [List.getD,hil]
   by_cases hc1:((s[i].toNat:Int) < 32)
   ·have d1:decide ((s[i].toNat:Int) < 32)=true:=by simpa using hc1
    simp only [go_sem,hi,hgd,d1]
    refine ⟨by omega,aret [2] rfl ⟨?_,rfl⟩⟩
    simp [resV,Av.get,plainL,all_false_at hil (p:=okB) (by simp [okB]; omega)]
   ·have d1:decide ((s[i].toNat:Int) < 32)=false:=by simpa using hc1
    by_cases hc2:((s[i].toNat:Int) > 126)
    ·have d2:decide ((s[i].toNat:Int) > 126)=true:=by simpa using hc2
     simp only [go_sem,hi,hgd,d1,d2]
     refine ⟨by omega,by omega,aret [2] rfl ⟨?_,rfl⟩⟩
     simp [resV,Av.get,plainL,all_false_at hil (p:=okB) (by simp [okB]; omega)]
    ·have d2:decide ((s[i].toNat:Int) > 126)=false:=by simpa using hc2
     simp only [go_sem,hi,hgd,d1,d2]
     rw [show (i:Int)+1=((i+1:Nat):Int) by omega]
     repeat refine And.intro (by omega) ?_
     refine ainv (hJ (i+1) ⟨by omega,all_take_succ hil g2 (by simp [okB]; omega)⟩ (by omega)) (Shift.weak ?_)
     simp only [wk,go_sem]
  ·simp only [go_sem,hi]
   have hall:s.all okB=true:=by rw [← g2,List.take_of_length_le (by omega)]
   refine pcall1 (hasPrefix_pc s [32]) rfl (N:=33) Tryz.ntmps186 rfl (go (N:=33) Tryz.ntmps186 200 ?_)
   cases e1:Lib.hasPrefix s [32] with
   | true =>
    simp only [go_sem]
    refine aret [2] rfl ⟨?_,rfl⟩
    simp [resV,Av.get,plainL,e1]
   | false =>
    simp only [go_sem]
    refine pcall1 (hasSuffix_pc s [32] (by omega)) rfl (N:=33) Tryz.ntmps186 rfl (go (N:=33) Tryz.ntmps186 200 ?_)
    cases e2:Lib.hasSuffix s [32] with
    | true =>
     simp only [go_sem]
     refine aret [2] rfl ⟨?_,rfl⟩
     simp [resV,Av.get,plainL,e2]
    | false =>
     simp only [go_sem]
     refine pcallH1 hg (contains_pch hS s [32,32] (by omega)) rfl (N:=33) Tryz.ntmps186 rfl (go (N:=33) Tryz.ntmps186 200 ?_)
     simp only [go_sem]
     refine aret [2] rfl ⟨?_,rfl⟩
     simp [resV,Av.get,plainL,e1,e2,hall]
def okP (o:List UInt8) (c:UInt8):Bool:=capI c.toNat || (digI c.toNat || (((c.toNat:Int) == 32) || !(decide (Lib.indexByte o c < 0))))
def properL (s:List UInt8) (most:Int) (o:List UInt8):Bool :=
 !(decide ((s.length:Int) < 1)) && (!(decide ((s.length:Int) > most)) && (capI (s.getD 0 0).toNat && (plainL s && s.all (okP o))))
theorem proper_pch {S:Std} (hS:LibOk S) (s:List UInt8) (most:Int) (o:List UInt8) (hs:s.length < 1000000):PcH Tryz.prog S 290 [.str s,.int .i64 most,.str o] (· = .bool (properL s most o)):=by
 refine pch_intro (cth_intro Tryz.func290 rfl Tryz.ntmps290 hB290 (by simp) fun h ρ w hg=>go (N:=60) Tryz.ntmps290 300 ?_)
 by_cases h1:(s.length:Int) < 1
 ·have d1:decide ((s.length:Int) < 1)=true:=by simpa using h1
  simp only [go_sem,d1]
  exact aret [6] rfl ⟨by simp [resV,Av.get,properL,h1],rfl⟩
 have d1:decide ((s.length:Int) < 1)=false:=by simpa using h1
 by_cases h2:(s.length:Int) > most
 ·have d2:decide ((s.length:Int) > most)=true:=by simpa using h2
  simp only [go_sem,d1,d2]
  exact aret [6] rfl ⟨by simp [resV,Av.get,properL,h2],rfl⟩
 have d2:decide ((s.length:Int) > most)=false:=by simpa using h2
 simp only [go_sem,d1,d2]
 have hpos:0 < s.length:=by omega
 refine ⟨by omega,?_⟩
 refine pcall1 (isCapital_pc _) rfl (N:=60) Tryz.ntmps290 rfl (go (N:=60) Tryz.ntmps290 300 ?_)
 cases e1:capI (s.getD 0 0).toNat with
 | false =>
  simp only [go_sem]
  exact aret [6] rfl ⟨by simp only [resV,Av.get,properL,e1]; simp,rfl⟩
 | true =>
 simp only [go_sem]
 refine pcallH1 hg (plain_pch hS s hs) rfl (N:=60) Tryz.ntmps290 rfl (go (N:=60) Tryz.ntmps290 300 ?_)
 cases e2:plainL s with
 | false =>
  simp only [go_sem]
  exact aret [6] rfl ⟨by simp only [resV,Av.get,properL,e2]; simp,rfl⟩
 | true =>
 simp only [go_sem]
 have hval:properL s most o=s.all (okP o):=by simp only [properL,d1,d2,e1,e2]; simp
 rw [hval]
 refine aloop (ι:=Nat) (fun i=>s.length - i) (fun i=>[(30,.int .i64 i),(29,.int .i64 s.length),(0,.str s),(2,.str o)]) (fun _=>[]) (fun i=>i ≤ s.length∧(s.take i).all (okP o)=true) 0 ⟨by omega,by simp⟩ ?_ ?_
 ·refine Shift.weak ?_
  simp only [wk,go_sem]
 ·rintro i ⟨g1,g2⟩ J hJ
  refine go (N:=60) Tryz.ntmps290 300 ?_
  by_cases hi:(i:Int) < s.length
  ·have hil:i < s.length:=by omega
   have hgd:s.getD i 0=s[i]:=by simp [List.getD,hil]
   simp only [go_sem,hi,hgd]
   refine ⟨by omega,?_⟩
   refine pcall1 (isCapital_pc _) rfl (N:=60) Tryz.ntmps290 rfl (go (N:=60) Tryz.ntmps290 300 ?_)
   cases c1:capI (s[i].toNat:Int) with
   | true =>
    simp only [go_sem]
    rw [show (i:Int)+1=((i+1:Nat):Int) by omega]
    repeat refine And.intro (by omega) ?_
    refine ainv (hJ (i+1) ⟨by omega,all_take_succ hil g2 (by simp only [okP,c1]; rfl)⟩ (by omega)) (Shift.weak ?_)
    simp only [wk,go_sem]
   | false =>
    simp only [go_sem,hi,hgd]
    refine ⟨by omega,?_⟩
    refine pcall1 (isDigit_pc _) rfl (N:=60) Tryz.ntmps290 rfl (go (N:=60) Tryz.ntmps290 300 ?_)
    cases c2:digI (s[i].toNat:Int) with
    | true =>
     simp only [go_sem]
     rw [show (i:Int)+1=((i+1:Nat):Int) by omega]
     repeat refine And.intro (by omega) ?_
     refine ainv (hJ (i+1) ⟨by omega,all_take_succ hil g2 (by simp only [okP,c1,c2]; rfl)⟩ (by omega)) (Shift.weak ?_)
     simp only [wk,go_sem]
    | false =>
     cases c3:((s[i].toNat:Int) == 32) with
     | true =>
      have c3':((s[i].toNat:Int) != 32)=false:=by simpa using c3
      simp only [go_sem,hi,hgd,c3']
      rw [show (i:Int)+1=((i+1:Nat):Int) by omega]
      repeat refine And.intro (by omega) ?_
      refine ainv (hJ (i+1) ⟨by omega,all_take_succ hil g2 (by simp only [okP,c1,c2,c3]; rfl)⟩ (by omega)) (Shift.weak ?_)
      simp only [wk,go_sem]
     | false =>
      have c3':((s[i].toNat:Int) != 32)=true:=by simpa using c3
      simp only [go_sem,hi,hgd,c3']
      refine ⟨by omega,by omega,?_⟩
      refine pcall1 (indexByte_pc o (s[i].toNat:Int)) rfl (N:=60) Tryz.ntmps290 rfl (go (N:=60) Tryz.ntmps290 300 ?_)
      have hb:((s[i].toNat:Int)).toNat.toUInt8=s[i]:=by simp
      rw [hb]
      cases c4:decide (Lib.indexByte o s[i] < 0) with
      | false =>
       simp only [go_sem,c4]
       rw [show (i:Int)+1=((i+1:Nat):Int) by omega]
       repeat refine And.intro (by omega) ?_
       refine ainv (hJ (i+1) ⟨by omega,all_take_succ hil g2 (by simp only [okP,c1,c2,c3,c4]; rfl)⟩ (by omega)) (Shift.weak ?_)
       simp only [wk,go_sem]
      | true =>
       simp only [go_sem,c4]
       refine aret [6] rfl ⟨?_,rfl⟩
       simp [resV,Av.get,all_false_at hil (p:=okP o) (by simp only [okP,c1,c2,c3,c4]; rfl)]
  ·simp only [go_sem,hi]
   have hall:s.all (okP o)=true:=by rw [← g2,List.take_of_length_le (by omega)]
   exact aret [6] rfl ⟨by simp [resV,Av.get,hall],rfl⟩
def isSetL (s:List UInt8):Bool:=properL s 60 [39,46,45,47] && (!Lib.contains s [32,45,32] && !Lib.hasSuffix s [32,45])
theorem isSet_pch {S:Std} (hS:LibOk S) (s:List UInt8) (hs:s.length < 1000000):PcH Tryz.prog S 255 [.str s] (· = .bool (isSetL s)):=by
 refine pch_intro (cth_intro Tryz.func255 rfl Tryz.ntmps255 hB255 (by simp) fun h ρ w hg=>go (N:=15) Tryz.ntmps255 300 ?_)
 simp only [go_sem]
 refine pcallH1 hg (proper_pch hS s 60 [39,46,45,47] hs) rfl (N:=15) Tryz.ntmps255 rfl (go (N:=15) Tryz.ntmps255 300 ?_)
 cases e1:properL s 60 [39,46,45,47] with
 | false =>
  simp only [go_sem]
  exact aret [2] rfl ⟨by simp [resV,Av.get,isSetL,e1],rfl⟩
 | true =>
  simp only [go_sem]
  refine pcallH1 hg (contains_pch hS s [32,45,32] (by omega)) rfl (N:=15) Tryz.ntmps255 rfl (go (N:=15) Tryz.ntmps255 300 ?_)
  cases e2:Lib.contains s [32,45,32] with
  | true =>
   simp only [go_sem]
   exact aret [2] rfl ⟨by simp [resV,Av.get,isSetL,e2],rfl⟩
  | false =>
   simp only [go_sem]
   refine pcall1 (hasSuffix_pc s [32,45] (by omega)) rfl (N:=15) Tryz.ntmps255 rfl (go (N:=15) Tryz.ntmps255 300 ?_)
   simp only [go_sem]
   exact aret [2] rfl ⟨by simp [resV,Av.get,isSetL,e1,e2],rfl⟩
def noDbl:List UInt8→Bool
 | a :: b :: r=>!(a == 32 && b == 32) && noDbl (b :: r)
 | _=>true
structure TextOk (p:UInt8→Bool) (t:List UInt8):Prop where
 ne:t ≠ []
 all:t.all p=true
 dbl:noDbl t=true
 hd:t.head? ≠ some 32
 lst:t.getLast? ≠ some 32
theorem index_dbl:∀ t:List UInt8,noDbl t=true→Lib.index t [32,32]=-1
 | [],_=>rfl
 | [a],_=>by
  have h:([32,32]:List UInt8).isPrefixOf [a]=false:=by simp [List.isPrefixOf]
  simp only [Lib.index,h,if_false,Bool.false_eq_true]
  rfl
 | a :: b :: r,h=>by
  simp only [noDbl,Bool.and_eq_true,Bool.not_eq_true'] at h
  have h1:([32,32]:List UInt8).isPrefixOf (a :: b :: r)=false:=by
   cases hq:([32,32]:List UInt8).isPrefixOf (a :: b :: r) with
   | false=>rfl
   | true =>
    simp [List.isPrefixOf] at hq
    obtain ⟨rfl,rfl⟩:=hq
    simp at h
  rw [Lib.index]
  simp only [h1,Bool.false_eq_true,if_false]
  rw [index_dbl (b :: r) h.2]
  rfl
theorem pre_blank {t:List UInt8} (h:t.head? ≠ some 32):Lib.hasPrefix t [32]=false:=by
 cases t with
 | nil=>rfl
 | cons a r =>
  simp only [Lib.hasPrefix,List.isPrefixOf,Bool.and_true]
  simp at h
  simpa using fun e=>h e.symm
theorem suf_blank {t:List UInt8} (h:t.getLast? ≠ some 32):Lib.hasSuffix t [32]=false:=by
 unfold Lib.hasSuffix
 cases hq:([32]:List UInt8).isSuffixOf t with
 | false=>rfl
 | true =>
  rw [List.isSuffixOf_iff_suffix] at hq
  obtain ⟨r,rfl⟩:=hq
  simp at h
theorem plain_of {p:UInt8→Bool} {t:List UInt8} (hp:∀ c,p c=true→okB c=true) (h:TextOk p t):plainL t=true:=by
 have h1:t.all okB=true:=by
  have:=h.all
  rw [List.all_eq_true] at this ⊢
  exact fun c hc=>hp c (this c hc)
 simp [plainL,h1,pre_blank h.hd,suf_blank h.lst,Lib.contains,index_dbl t h.dbl]
theorem noDbl_append:∀ {a b:List UInt8},noDbl a=true→noDbl b=true→a.getLast? ≠ some 32∨b.head? ≠ some 32→noDbl (a++b)=true
 | [],b,_,h,_=>h
 | [x],[],_,_,_=>rfl
 | [x],y :: b,_,h,e=>by
  simp only [List.cons_append,List.nil_append,noDbl,h,Bool.and_true,Bool.not_eq_true',Bool.and_eq_false_iff]
  rcases e with e | e
  ·left; simpa using e
  ·right; simpa using e
 | x :: y :: a,b,h,h',e=>by
  simp only [noDbl,Bool.and_eq_true] at h
  have ih:=noDbl_append (a:=y :: a) h.2 h' (by simpa using e)
  simp only [List.cons_append,noDbl,Bool.and_eq_true] at ih ⊢
  exact ⟨h.1,ih⟩
theorem TextOk.join {p:UInt8→Bool} {a b:List UInt8} (hb:p 32=true) (x:TextOk p a) (y:TextOk p b):TextOk p (a++32 :: b):=by
 refine ⟨by simp,?_,?_,?_,?_⟩
 ·simp only [List.all_append,List.all_cons,x.all,y.all,hb,Bool.and_self]
 ·have h:noDbl (32 :: b)=true:=by
   have:=noDbl_append (a:=[32]) (b:=b) rfl y.dbl (.inr y.hd)
   simpa using this
  exact noDbl_append x.dbl h (.inl x.lst)
 ·have:=x.ne
  cases a with
  | nil=>exact (this rfl).elim
  | cons c a=>simpa using x.hd
 ·rw [List.getLast?_append]
  have:=y.lst
  cases b with
  | nil=>exact (y.ne rfl).elim
  | cons c b =>
   simp only [List.getLast?_cons_cons]
   cases hq:(c :: b).getLast? with
   | none=>simp at hq
   | some z=>rw [hq] at this; simpa using this
theorem TextOk.pre {p q:UInt8→Bool} {a b:List UInt8} (hpq:∀ c,q c=true→p c=true) (ha:a.all p=true) (h1:noDbl a=true) (h2:a.head? ≠ some 32) (h0:a ≠ []) (y:TextOk q b):TextOk p (a++b):=by
 refine ⟨by simp [h0],?_,noDbl_append h1 y.dbl (.inr y.hd),?_,?_⟩
 ·have:b.all p=true:=by
   have:=y.all
   rw [List.all_eq_true] at this ⊢
   exact fun c hc=>hpq c (this c hc)
  simp only [List.all_append,ha,this,Bool.and_self]
 ·cases a with
  | nil=>exact (h0 rfl).elim
  | cons c a=>simpa using h2
 ·rw [List.getLast?_append]
  have:=y.lst
  cases hq:b.getLast? with
  | none=>exact (y.ne (List.getLast?_eq_none_iff.1 hq)).elim
  | some z=>rw [hq] at this; simpa using this
theorem TextOk.weak {p q:UInt8→Bool} {b:List UInt8} (hpq:∀ c,q c=true→p c=true) (y:TextOk q b):TextOk p b :=
 ⟨y.ne,by have:=y.all; rw [List.all_eq_true] at this ⊢; exact fun c hc=>hpq c (this c hc),y.dbl,y.hd,y.lst⟩
def textB (p:UInt8→Bool) (t:List UInt8):Bool:=t != [] && (t.all p && (noDbl t && (t.head? != some 32 && t.getLast? != some 32)))
theorem textB_ok {p:UInt8→Bool} {t:List UInt8} (h:textB p t=true):TextOk p t:=by
 simp only [textB,Bool.and_eq_true,bne_iff_ne,ne_eq] at h
 exact ⟨h.1,h.2.1,h.2.2.1,h.2.2.2.1,h.2.2.2.2⟩
def NameL:List (List UInt8):=[[65,78,78],[66,79],[68,82,46,32,88],[65,78,78,45,77,65,82,73,69]]
def SetL:List (List UInt8):=[[72,65,76,76],[77,73,76,76],[66,65,82,78,32,47,32,76,79,70,84]]
theorem names_pc:Pc Tryz.prog 73 [] (· = .fz 1 (NameL.map .str)):=by
 refine pc_intro (ct_intro Tryz.func73 rfl Tryz.ntmps73 hB73 (by simp) fun h ρ w=>goF (N:=2) Tryz.ntmps73 300 ?_)
 simp only [go_sem]
 exact aret [0] rfl ⟨rfl,rfl⟩
theorem sets_pc:Pc Tryz.prog 141 [] (· = .fz 1 (SetL.map .str)):=by
 refine pc_intro (ct_intro Tryz.func141 rfl Tryz.ntmps141 hB141 (by simp) fun h ρ w=>goF (N:=2) Tryz.ntmps141 300 ?_)
 simp only [go_sem]
 exact aret [0] rfl ⟨rfl,rfl⟩
def wordC (c:UInt8):Bool:=okB c && (c != 40 && (c != 41 && c != 86))
def textC (c:UInt8):Bool:=okB c && c != 86
theorem wordC_text (c:UInt8) (h:wordC c=true):textC c=true:=by
 simp only [wordC,textC,Bool.and_eq_true] at h ⊢
 exact ⟨h.1,h.2.2.2⟩
theorem textC_ok (c:UInt8) (h:textC c=true):okB c=true:=by
 simp only [textC,Bool.and_eq_true] at h
 exact h.1
def WordL:List (List UInt8):=[[114,97,105,110],[84,119,111],[103,117,110,115],[65,78,78],[66,111],[97],[116,104,101],[114,101,100],[99,97,114,46],[115,111,108,100,105,101,114,115],[49,50],
 [100,111,110,39,116],[45,45],[97,98,99,100,101,102,103,104,105,106,107,108,109,110,111,112,113,114,115,116,117,118,119,120,121,122,97,98,99,100,101,102,103,104,105,106,107,108,109,110,111,112,113,114,115,116,117,118,119,120,121,122],[99,97,114]]
theorem word_ok:(WordL.all fun x=>textB wordC x && decide (x.length ≤ 52))=true:=by decide +kernel
theorem word_of {x:List UInt8} (h:x ∈ WordL):TextOk wordC x∧x.length ≤ 52:=by
 have:=List.all_eq_true.1 word_ok x h
 simp only [Bool.and_eq_true,decide_eq_true_eq] at this
 exact ⟨textB_ok this.1,this.2⟩
end Go.Proofs.YtnfkjpihaficbaaGreatDoor
