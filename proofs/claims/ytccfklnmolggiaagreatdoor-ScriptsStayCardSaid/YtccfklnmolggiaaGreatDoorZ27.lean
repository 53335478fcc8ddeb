/- The table of a layout whose pages are memory of one's own. -/
import Derived.Test.YtccfklnmolggiaaGreatDoorZ26
set_option maxRecDepth 100000
set_option linter.all false
namespace Go.Proofs.YtccfklnmolggiaaGreatDoor
open Av RowKit
def pgW(k:Nat)(p:List Ln):AV:=.sl k 0 p.length p.length
def pgsW:Nat->List (List Ln)->LY
 | _,[]=>[]
 | k,p::r=>pgW k p::pgsW (k+1) r
def pgB(p:List Ln):Blk:=.arr 1 (p.map .str)
theorem pgsW_len:∀ (l:List (List Ln))(k:Nat),(pgsW k l).length=l.length
 | [],_=>rfl
 | _::r,k=>by simp[pgsW,pgsW_len r (k+1)]
theorem AzP:∀ (l:List (List Ln))(k:Nat)(p:List Ln),pgsW k (l++[p])=pgsW k l++[pgW (k+l.length) p]
 | [],k,p=>rfl
 | x::r,k,p=>by
  have:=AzP r (k+1) p;simp only[las,pgsW,this,laf];rw[show k+1+r.length=k+(r.length+1) by omega]
def layO(P:LY)(n:Nat)(f st:List Int)(fi:Int)(pg:AV)(b7 X:Blk)(D:LB):LB :=
 .arr 3 [.agg [.raw (.slice none 0 0),.raw (.slice none 0 0),.raw (.slice none 0 0)]]::.arr 3 [.agg [.sl 4 0 n n,.sl 5 0 f.length f.length,.sl 6 0 st.length st.length]]::.arr 1 [pg]::.arr 1 [.int .i64 fi] ::
  .arr 1 P::.arr 1 (f.map (.int .i64))::.arr 1 (st.map (.int .i64))::b7::X::D
def layTO(s:LS)(pg:AV)(b7 X:Blk):LB:=layO (pgsW 9 s.Lg) s.Lg.length s.Ld s.Lk s.first pg b7 X (s.Lg.map pgB)
def layW(s:LS)(X:Blk):LB:=layTO s (.sl 7 0 s.Lh.length s.Lh.length) (.arr 1 (s.Lh.map .str)) X
theorem A7C(r:List Nat):∀ (k a j p:Nat),j<k->idx (List.range' a k++r) (a+j) p=some (p+j)
 | 0,_,_,_,h=>by omega
 | k+1,a,0,p,_=>by simp[List.range'_succ,idx]
 | k+1,a,j+1,p,h=>by
  have ih:=A7C r k (a+1) j (p+1) (by omega);have e:(a==a+(j+1))=false:=by simp
  rw[List.range'_succ,las,idx,e,lba,show a+(j+1)=a+1+j by omega,ih]
  congr 1; omega
theorem A7D(x:Nat)(r:List Nat):∀ (k a p:Nat),x<a->idx (List.range' a k++r) x p=idx r x (p+k)
 | 0,_,_,_=>by simp
 | k+1,a,p,h=>by
  have ih:=A7D x r k (a+1) (p+1) (by omega);have e:(a==x)=false:=by simp; omega
  rw[List.range'_succ,las,idx,e,lba,ih]
  congr 1; omega
theorem AzQ(σ:List Nat){b0 b1 b2 b3 b4 b5 b6 b7 b8:Blk}(D E:LB):(List.range' 9 D.length).map (fun i=>renB σ ((b0::b1::b2::b3::b4::b5::b6::b7::b8::(D++E)).getD i .dead))=D.map (renB σ):=by
 apply List.ext_getElem (by simp);intro i h1 h2;have hi:i<D.length:=by simpa using h2
 rw[List.getElem_map,List.getElem_map,List.getElem_range',show 9+1*i=i+9 by omega]
 congr 1
 show(D++E).getD i .dead=_
 rw[lbk,lat hi,lad hi];rfl
theorem BhL(σ:List Nat)(p:List Ln):renB σ (pgB p)=pgB p:=by
 simp only[pgB,renB];rw[AcT (fun _=>rfl)]
theorem ren_D(σ:List Nat)(l:List (List Ln)):(l.map pgB).map (renB σ)=l.map pgB:=by
 rw[List.map_map];exact lcc fun p _=>BhL σ p
theorem AwP{σ:List Nat}:∀ (l:List (List Ln))(k:Nat),(∀ j,j<l.length->idx σ (k+j) 0=some (k+j))->(pgsW k l).map (renC σ)=pgsW k l
 | [],_,_=>rfl
 | p::r,k,h=>by
  have h0:=h 0 (by simp);have ih:=AwP r (k+1) (fun j hj=>by
   have:=h (j+1) (by simp; omega);rw[show k+1+j=k+(j+1) by omega]; exact this)
  simp only[Nat.add_zero]at h0;simp only[pgsW,lah,ih];simp only[pgW,renC,ren1,h0]
def sgB(k:Nat):List Nat:=0::1::2::3::4::5::6::7::(k+9)::List.range' 9 k
theorem BjU(k:Nat):idx (sgB k) 0 0=some 0/\idx (sgB k) 1 0=some 1/\idx (sgB k) 2 0=some 2/\idx (sgB k) 3 0=some 3/\idx (sgB k) 4 0=some 4/\idx (sgB k) 5 0=some 5/\idx (sgB k) 6 0=some 6/\idx (sgB k) 7 0=some 7:=⟨rfl,rfl,rfl,rfl,rfl,rfl,rfl,rfl⟩
theorem sgB_b(k:Nat):idx (sgB k) (k+9) 0=some 8:=by
 have h:∀ m:Nat,m<9->(m==k+9)=false:=fun m hm=>by simp; omega
 simp only[sgB,idx,h 0 (by omega),h 1 (by omega),h 2 (by omega),h 3 (by omega),h 4 (by omega),h 5 (by omega),h 6 (by omega),h 7 (by omega),lba,lbi,lav]
theorem BjV(k j:Nat)(hj:j<k):idx (sgB k) (9+j) 0=some (9+j):=by
 have h:∀ m:Nat,m<9->(m==9+j)=false:=fun m hm=>by simp; omega
 have h9:(k+9==9+j)=false:=by simp; omega
 simp only[sgB,idx,h 0 (by omega),h 1 (by omega),h 2 (by omega),h 3 (by omega),h 4 (by omega),h 5 (by omega),h 6 (by omega),h 7 (by omega),h9,lba];have:=A7C [] k 9 j 9 hj
 rwa [lbg]at this
theorem BeP(s:LB)(σ:List Nat)(h1:∀ i∈σ,i<s.length/\mpOk (s.getD i .dead)=true)(h2:σ.Nodup):renOk σ 0 s=true:=by
 simp only[renOk,List.take_zero,List.range_zero,lbi,lbw,lac,lbv,lao];exact⟨fun i hi=>h1 i hi,h2⟩
theorem BeQ{P n f st fi pg b7 X}{D:LB}(h7:mpOk b7=true)(hX:mpOk X=true)(hD:∀ b∈D,mpOk b=true):∀ i,i<D.length+9->mpOk ((layO P n f st fi pg b7 X D).getD i .dead)=true:=fun i hi=>by
 rw[lbk]
 rcases Nat.lt_or_ge i 9 with h|h
 .unfold layO
  obtain rfl|rfl|rfl|rfl|rfl|rfl|rfl|rfl|rfl:i=0\/i=1\/i=2\/i=3\/i=4\/i=5\/i=6\/i=7\/i=8:=by omega
  all_goals first|exact h7|exact hX|rfl
 .obtain ⟨j,rfl⟩:∃ j,i=j+9:=⟨i-9,by omega⟩
  have hj:j<D.length:=by omega
  show mpOk (D[j]?.getD .dead)=true
  rw[lad hj];exact hD _ (lai hj)
theorem A7E(l:List (List Ln)):∀ b∈l.map pgB,mpOk b=true:=fun b hb=>by
 obtain⟨p,_,rfl⟩:=List.mem_map.1 hb;rfl
theorem A7F{c:Cx}{e e':Env}(hc:c.sto.length=0)(s:LS)(pg:AV)(l7:LY)(X:Blk)(D:LB)(hD:s.Lg.map pgB=D)(b:Bl)(hpg:renC (sgB D.length) pg=pg)(h7:l7.map (renC (sgB D.length))=l7)(hX:mpOk X=true)(hw:wk (renE (sgB D.length) e) e') :
  Shift c e (layO (pgsW 9 s.Lg) s.Lg.length s.Ld s.Lk s.first pg (.arr 1 l7) X (D++[.arr 4 [blA b]])) e' (layTO s pg (.arr 1 l7) (.arr 4 [blA b])):=by
 have hl:s.Lg.length=D.length:=by rw[<- hD,laa]
 have hDm:∀ x∈D,mpOk x=true:=hD▸A7E _;have hm:=BeQ (P:=pgsW 9 s.Lg) (n:=s.Lg.length) (f:=s.Ld) (st:=s.Lk) (fi:=s.first) (pg:=pg) (b7:=.arr 1 l7) (X:=X) (D:=D++[.arr 4 [blA b]]) rfl hX (fun x hx=>by
  rcases List.mem_append.1 hx with hx|hx
  .exact hDm x hx
  .rw [lcf]at hx; subst hx; rfl)
 have hok:renOk (sgB D.length) c.sto.length (layO (pgsW 9 s.Lg) s.Lg.length s.Ld s.Lk s.first pg (.arr 1 l7) X (D++[.arr 4 [blA b]]))=true:=by
  rw[hc];refine BeP _ _ (fun i hi=>?_) ?_
  .have:i<(D++[Blk.arr 4 [blA b]]).length+9:=by
    simp only[sgB,List.mem_cons,List.mem_range'_1]at hi;simp only[lak,laf,lar];omega
   exact⟨by simp only[layO,laf]; omega,hm i this⟩
  .simp only [sgB,List.nodup_cons,List.mem_cons,List.mem_range'_1,not_or]
   refine⟨by omega,by omega,by omega,by omega,by omega,by omega,by omega,by omega,by omega,List.nodup_range'⟩
 refine Shift.trans (Shift.ren (sgB D.length) hok) (Lp hw ?_);have hP:(pgsW 9 s.Lg).map (renC (sgB D.length))=pgsW 9 s.Lg:=AwP _ _ (fun j hj=>BjV _ _ (by omega));have ht:=AzQ (sgB D.length) (b0:=.arr 3 [.agg [.raw (.slice none 0 0),.raw (.slice none 0 0),.raw (.slice none 0 0)]]) (b1:=.arr 3 [.agg [.sl 4 0 s.Lg.length s.Lg.length,.sl 5 0 s.Ld.length s.Ld.length,.sl 6 0 s.Lk.length s.Lk.length]]) (b2:=.arr 1 [pg]) (b3:=.arr 1 [.int .i64 s.first]) (b4:=.arr 1 (pgsW 9 s.Lg)) (b5:=.arr 1 (s.Ld.map (.int .i64))) (b6:=.arr 1 (s.Lk.map (.int .i64))) (b7:=.arr 1 l7) (b8:=X) D [.arr 4 [blA b]];have hg:(layO (pgsW 9 s.Lg) s.Lg.length s.Ld s.Lk s.first pg (.arr 1 l7) X (D++[.arr 4 [blA b]])).getD (D.length+9) .dead=Blk.arr 4 [blA b]:=gd_end D _ _;have hDr:D.map (renB (sgB D.length))=D:=by rw[<- hD,ren_D]
 rw[hDr]at ht;obtain⟨i0,i1,i2,i3,i4,i5,i6,i7⟩:=BjU D.length;have e1:(s.Ld.map (AV.int .i64)).map (renC (sgB D.length))=s.Ld.map (AV.int .i64):=AcT (fun _=>rfl) _;have e2:(s.Lk.map (AV.int .i64)).map (renC (sgB D.length))=s.Lk.map (AV.int .i64):=AcT (fun _=>rfl) _;have hb:renC (sgB D.length) (blA b)=blA b:=rfl;have h0:renS (sgB D.length) (layO (pgsW 9 s.Lg) s.Lg.length s.Ld s.Lk s.first pg (.arr 1 l7) X (D++[.arr 4 [blA b]])) =
   renB (sgB D.length) (.arr 3 [.agg [.raw (.slice none 0 0),.raw (.slice none 0 0),.raw (.slice none 0 0)]])::renB (sgB D.length) (.arr 3 [.agg [.sl 4 0 s.Lg.length s.Lg.length,.sl 5 0 s.Ld.length s.Ld.length,.sl 6 0 s.Lk.length s.Lk.length]])::renB (sgB D.length) (.arr 1 [pg])::renB (sgB D.length) (.arr 1 [.int .i64 s.first]) ::
   renB (sgB D.length) (.arr 1 (pgsW 9 s.Lg))::renB (sgB D.length) (.arr 1 (s.Ld.map (.int .i64)))::renB (sgB D.length) (.arr 1 (s.Lk.map (.int .i64)))::renB (sgB D.length) (.arr 1 l7) ::
   renB (sgB D.length) ((layO (pgsW 9 s.Lg) s.Lg.length s.Ld s.Lk s.first pg (.arr 1 l7) X (D++[.arr 4 [blA b]])).getD (D.length+9) .dead)::(List.range' 9 D.length).map (fun i=>renB (sgB D.length) ((layO (pgsW 9 s.Lg) s.Lg.length s.Ld s.Lk s.first pg (.arr 1 l7) X (D++[.arr 4 [blA b]])).getD i .dead)):=rfl
 rw[h0,hg];simp only[layO,layTO]at ht |-;rw[ht,hD];simp only[renB,lah,laq,hP,e1,e2,h7,hpg,hb];simp only[renC,ren1,lah,laq,i4,i5,i6]
def sgR(k:Nat):List Nat:=0::1::2::3::4::5::6::(k+9)::8::(List.range' 9 k++[7])
theorem BjW(k:Nat):idx (sgR k) 0 0=some 0/\idx (sgR k) 1 0=some 1/\idx (sgR k) 2 0=some 2/\idx (sgR k) 3 0=some 3/\idx (sgR k) 4 0=some 4/\idx (sgR k) 5 0=some 5/\idx (sgR k) 6 0=some 6:=⟨rfl,rfl,rfl,rfl,rfl,rfl,rfl⟩
theorem sgR_8(k:Nat):idx (sgR k) 8 0=some 8:=by
 have h:(k+9==8)=false:=by simp
 simp only[sgR,idx,h,Nat.reduceBEq,lba,lav]
theorem sgR_n(k:Nat):idx (sgR k) (k+9) 0=some 7:=by
 have h:∀ m:Nat,m<9->(m==k+9)=false:=fun m hm=>by simp; omega
 simp only[sgR,idx,h 0 (by omega),h 1 (by omega),h 2 (by omega),h 3 (by omega),h 4 (by omega),h 5 (by omega),h 6 (by omega),lba,lbi,lav]
theorem sgR_7(k:Nat):idx (sgR k) 7 0=some (9+k):=by
 have h:(k+9==7)=false:=by simp
 simp only[sgR,idx,h,Nat.reduceBEq,lba];rw[A7D 7 [7] k 9 9 (by omega)]
 simp[idx]
theorem BjX(k j:Nat)(hj:j<k):idx (sgR k) (9+j) 0=some (9+j):=by
 have h:∀ m:Nat,m<9->(m==9+j)=false:=fun m hm=>by simp; omega
 have h9:(k+9==9+j)=false:=by simp; omega
 simp only[sgR,idx,h 0 (by omega),h 1 (by omega),h 2 (by omega),h 3 (by omega),h 4 (by omega),h 5 (by omega),h 6 (by omega),h 8 (by omega),h9,lba];exact A7C [7] k 9 j 9 hj
theorem AwQ{c:Cx}{e e':Env}(hc:c.sto.length=0)(s:LS)(X:Blk)(hX:mpOk X=true)(hX2:renB (sgR s.Lg.length) X=X)(hw:wk (renE (sgR s.Lg.length) e) e') :
  Shift c e (layO (pgsW 9 s.Lg++[pgW 7 s.Lh]) (s.Lg.length+1) (s.Ld++[s.first]) s.Lk (-1) (.raw (.slice none 0 0)) (.arr 1 (s.Lh.map .str)) X (s.Lg.map pgB)) e' (layW (flushS s) X):=by
 have hl:(s.Lg.map pgB).length=s.Lg.length:=laa _;have hs1:List.set (layO (pgsW 9 s.Lg++[pgW 7 s.Lh]) (s.Lg.length+1) (s.Ld++[s.first]) s.Lk (-1) (.raw (.slice none 0 0)) (.arr 1 (s.Lh.map .str)) X (s.Lg.map pgB)++[Blk.arr 1 []]) 2 (.arr 1 [.sl (s.Lg.length+9) 0 0 0]) =
   layO (pgsW 9 s.Lg++[pgW 7 s.Lh]) (s.Lg.length+1) (s.Ld++[s.first]) s.Lk (-1) (.sl (s.Lg.length+9) 0 0 0) (.arr 1 (s.Lh.map .str)) X (s.Lg.map pgB++[Blk.arr 1 []]):=rfl
 refine Shift.trans (Shift.cells (es:=1) (l:=[.raw (.slice none 0 0)]) 2 1 [.sl (s.Lg.length+9) 0 0 0] rfl rfl (by simp[cellsOf]) ?_) ?_
 .refine ⟨?_,trivial⟩
  have:(layO (pgsW 9 s.Lg++[pgW 7 s.Lh]) (s.Lg.length+1) (s.Ld++[s.first]) s.Lk (-1) (.raw (.slice none 0 0)) (.arr 1 (s.Lh.map .str)) X (s.Lg.map pgB)).length=s.Lg.length+9:=by simp[layO]
  rw[this];exact .sl
 rw[hs1];have hm:=BeQ (P:=pgsW 9 s.Lg++[pgW 7 s.Lh]) (n:=s.Lg.length+1) (f:=s.Ld++[s.first]) (st:=s.Lk) (fi:=-1) (pg:=.sl (s.Lg.length+9) 0 0 0) (b7:=.arr 1 (s.Lh.map .str)) (X:=X) (D:=s.Lg.map pgB++[Blk.arr 1 []]) rfl hX (fun x hx=>by
  rcases List.mem_append.1 hx with hx|hx
  .exact A7E _ x hx
  .rw [lcf]at hx; subst hx; rfl)
 have hok:renOk (sgR s.Lg.length) c.sto.length (layO (pgsW 9 s.Lg++[pgW 7 s.Lh]) (s.Lg.length+1) (s.Ld++[s.first]) s.Lk (-1) (.sl (s.Lg.length+9) 0 0 0) (.arr 1 (s.Lh.map .str)) X (s.Lg.map pgB++[Blk.arr 1 []]))=true:=by
  rw[hc];refine BeP _ _ (fun i hi=>?_) ?_
  .have:i<(s.Lg.map pgB++[Blk.arr 1 []]).length+9:=by
    simp only[sgR,List.mem_cons,List.mem_append,List.mem_range'_1,List.not_mem_nil,or_false]at hi;simp only[lak,laf,lar,hl];omega
   exact⟨by simp only[layO,laf]; omega,hm i this⟩
  .simp only [sgR,List.nodup_cons,List.mem_cons,List.mem_append,List.mem_range'_1,List.not_mem_nil,or_false,not_or]
   refine⟨by omega,by omega,by omega,by omega,by omega,by omega,by omega,by omega,by omega,?_⟩;rw[List.nodup_append];refine⟨List.nodup_range',by simp,fun a ha b hb=>?_⟩;simp only[List.mem_range'_1,lcf]at ha hb;omega
 refine Shift.trans (Shift.ren (sgR s.Lg.length) hok) (Lp hw ?_);have hP:(pgsW 9 s.Lg).map (renC (sgR s.Lg.length))=pgsW 9 s.Lg:=AwP _ _ (fun j hj=>BjX _ _ hj);have ht:=AzQ (sgR s.Lg.length) (b0:=.arr 3 [.agg [.raw (.slice none 0 0),.raw (.slice none 0 0),.raw (.slice none 0 0)]]) (b1:=.arr 3 [.agg [.sl 4 0 (s.Lg.length+1) (s.Lg.length+1),.sl 5 0 (s.Ld++[s.first]).length (s.Ld++[s.first]).length,.sl 6 0 s.Lk.length s.Lk.length]]) (b2:=.arr 1 [.sl (s.Lg.length+9) 0 0 0]) (b3:=.arr 1 [.int .i64 (-1)]) (b4:=.arr 1 (pgsW 9 s.Lg++[pgW 7 s.Lh])) (b5:=.arr 1 ((s.Ld++[s.first]).map (.int .i64))) (b6:=.arr 1 (s.Lk.map (.int .i64))) (b7:=.arr 1 (s.Lh.map .str)) (b8:=X) (s.Lg.map pgB) [.arr 1 []];rw[ren_D,hl]at ht;have hg:(layO (pgsW 9 s.Lg++[pgW 7 s.Lh]) (s.Lg.length+1) (s.Ld++[s.first]) s.Lk (-1) (.sl (s.Lg.length+9) 0 0 0) (.arr 1 (s.Lh.map .str)) X (s.Lg.map pgB++[Blk.arr 1 []])).getD (s.Lg.length+9) .dead=Blk.arr 1 []:=by
  have:=gd_end (s.Lg.map pgB) (Blk.arr 1 []) Blk.dead;rw[hl]at this;exact this
 obtain⟨i0,i1,i2,i3,i4,i5,i6⟩:=BjW s.Lg.length;have i7:=sgR_7 s.Lg.length;have i9:=sgR_n s.Lg.length;have e1:((s.Ld++[s.first]).map (AV.int .i64)).map (renC (sgR s.Lg.length))=(s.Ld++[s.first]).map (AV.int .i64):=AcT (fun _=>rfl) _;have e2:(s.Lk.map (AV.int .i64)).map (renC (sgR s.Lg.length))=s.Lk.map (AV.int .i64):=AcT (fun _=>rfl) _;have e3:(s.Lh.map AV.str).map (renC (sgR s.Lg.length))=s.Lh.map AV.str:=AcT (fun _=>rfl) _;have h0:renS (sgR s.Lg.length) (layO (pgsW 9 s.Lg++[pgW 7 s.Lh]) (s.Lg.length+1) (s.Ld++[s.first]) s.Lk (-1) (.sl (s.Lg.length+9) 0 0 0) (.arr 1 (s.Lh.map .str)) X (s.Lg.map pgB++[Blk.arr 1 []])) =
   renB (sgR s.Lg.length) (.arr 3 [.agg [.raw (.slice none 0 0),.raw (.slice none 0 0),.raw (.slice none 0 0)]])::renB (sgR s.Lg.length) (.arr 3 [.agg [.sl 4 0 (s.Lg.length+1) (s.Lg.length+1),.sl 5 0 (s.Ld++[s.first]).length (s.Ld++[s.first]).length,.sl 6 0 s.Lk.length s.Lk.length]])::renB (sgR s.Lg.length) (.arr 1 [.sl (s.Lg.length+9) 0 0 0])::renB (sgR s.Lg.length) (.arr 1 [.int .i64 (-1)]) ::
   renB (sgR s.Lg.length) (.arr 1 (pgsW 9 s.Lg++[pgW 7 s.Lh]))::renB (sgR s.Lg.length) (.arr 1 ((s.Ld++[s.first]).map (.int .i64)))::renB (sgR s.Lg.length) (.arr 1 (s.Lk.map (.int .i64)))::renB (sgR s.Lg.length) ((layO (pgsW 9 s.Lg++[pgW 7 s.Lh]) (s.Lg.length+1) (s.Ld++[s.first]) s.Lk (-1) (.sl (s.Lg.length+9) 0 0 0) (.arr 1 (s.Lh.map .str)) X (s.Lg.map pgB++[Blk.arr 1 []])).getD (s.Lg.length+9) Blk.dead) ::
   renB (sgR s.Lg.length) X::(List.range' 9 s.Lg.length++[7]).map (fun i=>renB (sgR s.Lg.length) ((layO (pgsW 9 s.Lg++[pgW 7 s.Lh]) (s.Lg.length+1) (s.Ld++[s.first]) s.Lk (-1) (.sl (s.Lg.length+9) 0 0 0) (.arr 1 (s.Lh.map .str)) X (s.Lg.map pgB++[Blk.arr 1 []])).getD i .dead)):=rfl
 have h7:(layO (pgsW 9 s.Lg++[pgW 7 s.Lh]) (s.Lg.length+1) (s.Ld++[s.first]) s.Lk (-1) (.sl (s.Lg.length+9) 0 0 0) (.arr 1 (s.Lh.map .str)) X (s.Lg.map pgB++[Blk.arr 1 []])).getD 7 .dead=Blk.arr 1 (s.Lh.map .str):=rfl;rw[h0,hg,lap (l₁:=List.range' 9 s.Lg.length),lah (l:=[]),laq,h7];simp only[layO,layTO,layW,flushS]at ht |-;rw[ht,hX2,AzP];simp only[renB,lap,lah,laq,hP,e1,e2,e3,lak,laf,lar];simp only[renC,ren1,pgW,pgB,lah,laq,i4,i5,i6,i7,i9,lap];simp only[lap,lah,laq]at e1
 first|rfl|(simp[e1]; exact fun _ _=>rfl)
theorem AiN(l:List (List Ln)):(flat (l.map pgA)).all Av.frozen=true:=by
 induction l<;>grind[flat,cellsOf,pgA,Av.frozen]
theorem AcL(l:List Int):(flat (l.map (AV.int .i64))).all Av.frozen=true:=by
 induction l<;>grind[flat,cellsOf,Av.frozen]
