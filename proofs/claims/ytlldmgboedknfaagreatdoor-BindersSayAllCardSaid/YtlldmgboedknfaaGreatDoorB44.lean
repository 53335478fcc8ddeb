/- The law that the leaves of a draft say what its scenes say, walked. -/
import Derived.Test.YtlldmgboedknfaaGreatDoorB43
set_option maxRecDepth 100000
set_option maxHeartbeats 8000000
set_option linter.unusedSimpArgs false
set_option linter.unusedVariables false
namespace Go.Proofs.YtlldmgboedknfaaGreatDoor
open Go Go.Av Go.RowKit _root_.Go.Proofs.Tryz
theorem AoW{S:Std}(hS:LibOk S)(L:List Int):PcH prog S 3 [.fz 1 (L.map (.int .i64))] (· = .bool true):=by
 refine zqIF func3 rfl fun h ρ w hg=>?_
 simp only[go_sem];refine zmH 0 hg (agg:=str L 0) (A8Y hS L 0 (by omega) (by omega)) ?_;rintro _ _ ⟨x,k',rfl,hx,rfl,hk1,hk2⟩;have hok:=BdT ⟨x,hx,.inr rfl⟩;obtain⟨hsd,hsh⟩:=BkG hx;obtain⟨ti,xs0⟩:=x;simp only[numR]at hok hsd hsh |-;generalize numL 0 xs0=xs at *;clear hx;have hlk:=BeO hS ⟨ti,xs⟩ hok hsd;have hin:=BaS hok hsd;have hg0:=BaT hok hsd;have hrv:=A4R L k' (by omega) (by omega) 1 ti xs ((lockL xs).map leA) hsd.sc (by have:=hsd.few; omega);have hti:=hok.title;have htp:=hok.plain;simp only[srA,drA,List.map_nil]at hlk |-;refine zgF ?_;simp only[go_sem];refine zqF hg (hlk) ?_;have d0:((0:Int) != 0)=false:=by decide
 simp only[go_sem,d0];refine amid2 (κ:=Int×Dr) (fun _=>[(4,.ptr 1 1 0 0)]) (fun y=>[.arr 2 [str L y.1],.arr 5 [.agg [.int .i64 y.2.no,.str y.2.title,.fz 5 (y.2.scenes.map scA),.fz 1 (y.2.gone.map .str),.fz 4 (y.2.leaves.map leA)]]]) (fun y=>GoodD y.2) ?_ ?_
 .rintro ⟨k2,d⟩ ⟨hsaid,hscr,hfew,hmany,hlines⟩
  simp only at hsaid hscr hfew hmany hlines |-;have hsp:=A4F hS ⟨d.title,d.scenes⟩ hscr hfew;have hlm:∀ p∈d.leaves.map (·.lines),p.length<=54/\∀ l∈p,l.length<=3000100:=fun p hp=>by
   obtain⟨f,hf,rfl⟩:=List.mem_map.1 hp;exact hlines f hf
  have hsz:=BeE hS (d.leaves.map (·.lines)) (fun p hp=>(hlm p hp).1) (fun p hp l hl=>by have:=(hlm p hp).2 l hl; omega) (by simp; omega);have hlk2:=AsK _ _ _ hscr.ok hscr.many;have hbd:=AfT (fun y hy=>(hlk2 y hy).lines) d.scenes.length (Nat.le_refl _);unfold spokenTo at hbd;rw[List.take_length]at hbd;have heq:=AjP ((d.scenes.flatMap linesL).filter keepL) ((d.scenes.flatMap linesL).filter keepL) (by omega) (by omega);rw[hsaid]at hsz;have hself:((d.scenes.flatMap linesL).filter keepL==(d.scenes.flatMap linesL).filter keepL)=true:=by simp
  rw[hself]at heq;have hmp:(d.leaves.map (·.lines)).map pgA=d.leaves.map fun f=>.fz 1 (f.lines.map .str):=by rw[List.map_map]; rfl
  rw[hmp]at hsz;generalize (d.scenes.flatMap linesL).filter keepL=want at hsp hsz heq;simp only[srA]at hsp;clear hsaid hlm hbd hlk2;refine zgF ?_;simp only[go_sem,List.length_map];refine AaL (ι:=Nat) (fun i=>d.leaves.length-i) (fun i=>[(38,.int .i64 i),(37,.int .i64 d.leaves.length),(36,.fz 4 (d.leaves.map leA)),(8,.sl 2 0 i i),(4,.ptr 1 1 0 0)])
   (fun i=>[.arr 2 [str L k2],.arr 5 [.agg [.int .i64 d.no,.str d.title,.fz 5 (d.scenes.map scA),.fz 1 (d.gone.map .str),.fz 4 (d.leaves.map leA)]],.arr 1 ((d.leaves.take i).map fun f=>.fz 1 (f.lines.map .str))]) (fun i=>i<=d.leaves.length) 0 (by omega) ?_ ?_
  .refine Shift.trans (Shift.nilsl 8 1 rfl) (Shift.weakS ?_ rfl)
   simp only[go_sem]
  .intro i g1 J hJ
   have hfz:∀ l:List Le',(flat (l.map fun f=>AV.fz 1 (f.lines.map .str))).all Av.frozen=true:=by
    intro l
    induction l with
    | nil=>rfl
    | cons y l ih=>simpa[flat,cellsOf,Av.frozen]using ih
   by_cases gi:i<d.leaves.length
   .have di:decide ((i:Int)<(d.leaves.length:Int))=true:=by rw[decide_eq_true_eq]; omega
    have hle:=AcO gi;have htl:((d.leaves.take i).map fun f=>AV.fz 1 (f.lines.map .str)).length=i:=by simp; omega
    have hap:((d.leaves.take i).map fun f=>AV.fz 1 (f.lines.map .str))++[.fz 1 (d.leaves[i].lines.map .str)]=(d.leaves.take (i+1)).map fun f=>.fz 1 (f.lines.map .str):=by
     rw[List.take_succ_eq_append_getElem gi]; simp only[List.map_append,List.map_cons,List.map_nil]
    have hfin:=hJ (i+1) (by omega) (by omega);have hlow:∀ m l,lowB m (.arr 1 ((l:List Le').map fun f=>.fz 1 (f.lines.map .str)))=true:=fun m l=>AaX (hfz l)
    refine zgF ?_;simp only[go_sem,di,hle,hap,htl,List.length_map]
    repeat refine aqa ?_
    rw[ic i];refine ainv hfin (Shift.low 3 (by simp) (by simp) ?_ ?_)
    .simp only [List.take_succ_cons,List.take_zero,List.all_cons,List.all_nil,↓hlow,lowB,flat,cellsOf,lowC,str,Av.frozen,decide_true,List.append_nil,List.cons_append,List.nil_append,Nat.reduceLT,Bool.and_self]
    .simp only [wkl,lowV,lowC,Av.get,Av.frozen,decide_true,go_sem]
   .have di:decide ((i:Int)<(d.leaves.length:Int))=false:=by rw[decide_eq_false_iff_not]; omega
    have hi:i=d.leaves.length:=by omega
    subst hi;rw[List.take_length];refine AWp.shift (Shift.freeze 8 (id:=2) rfl rfl (by simp) (Nat.le_refl _) (hfz _)) ?_;have t1:List.take d.leaves.length (d.leaves.map fun f=>AV.fz 1 (f.lines.map .str))=d.leaves.map fun f=>.fz 1 (f.lines.map .str):=List.take_of_length_le (by simp)
    simp only[List.drop_zero,List.set_cons_succ,List.set_cons_zero,Av.put,t1];refine zgF ?_;simp only[go_sem,di];refine zqF hg (hsp) ?_;simp only[go_sem];refine zqF hg (AzH hS) ?_;simp only[go_sem];refine zqF hg (hsz) ?_;simp only[go_sem];refine zpF (heq) ?_;simp only[go_sem];exact zt [2]
 .intro Q hQ
  refine ApI [3,4] 0 [] mixed (by decide) rfl rfl 100 ?_;simp only[go_sem];refine BcI hrv rfl rfl rfl ⟨_,_,[],k',rfl,⟨by simp,by simp[hasNo,nosL],by simp,by simp⟩,rfl,by omega,by omega⟩ ?_;rintro _ _ ⟨zs,k2,rfl,hz,rfl,hk3,hk4⟩;have hnod:(nosL xs).Nodup:=hsd.rise.imp (S:=(·≠·)) fun hlt e=>by subst e; exact AaH _ hlt
  have hzs:=hz.script hnod hsd.few hti htp;have hnx:=A4S hS ⟨1,ti,xs,[],lockL xs⟩ hin ⟨ti,zs⟩ hzs hz.sc;simp only[srA,drA,List.map_nil]at hnx |-;simp only[go_sem];refine A8E hg hnx rfl rfl ⟨_,.inl ⟨1,by decide,rfl⟩⟩ ?_;rintro _ (⟨e,he,rfl⟩|⟨E,E',la,l,hN,rfl⟩)
  .have de:(e==0)=false:=by simpa using he
   have hQ':=hQ (k2,⟨1,ti,xs,[],lockL xs⟩) hg0;simp only[drZ];simp only[go_sem]
   repeat refine aqa ?_
   refine zgF ?_;simp only[go_sem,de];refine ainv hQ' (Shift.low 2 (by simp) (by simp) ?_ ?_)
   .simp only [List.take_succ_cons,List.take_zero,List.all_cons,List.all_nil,lowB,flat,cellsOf,lowC,str,Av.frozen,decide_true,List.append_nil,List.cons_append,List.nil_append,Nat.reduceLT,Bool.and_self]
   .simp only [wkl,lowV,lowC,Av.get,Av.frozen,decide_true,go_sem]
  .have de:((0:Int)==0)=true:=by decide
   have hQ':=hQ (k2,nextD ⟨1,ti,xs,[],lockL xs⟩ ⟨ti,zs⟩ E l) (BaU hok hsd hsh hz hN);simp only[nextD,drA]at hQ' |-;simp only[go_sem]
   repeat refine aqa ?_
   refine zgF ?_;simp only[go_sem,de];refine ainv hQ' (Shift.low 2 (by simp) (by simp) ?_ ?_)
   .simp only [List.take_succ_cons,List.take_zero,List.all_cons,List.all_nil,lowB,flat,cellsOf,lowC,str,Av.frozen,decide_true,List.append_nil,List.cons_append,List.nil_append,Nat.reduceLT,Bool.and_self]
   .simp only [wkl,lowV,lowC,Av.get,Av.frozen,decide_true,go_sem]
