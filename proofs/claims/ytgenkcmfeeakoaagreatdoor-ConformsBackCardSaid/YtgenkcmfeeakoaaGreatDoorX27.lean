/- take.CheckTakes at a film. -/
import Derived.Test.YtgenkcmfeeakoaaGreatDoorX26
set_option maxRecDepth 100000
set_option maxHeartbeats 8000000
set_option linter.all false
namespace Go.Proofs.YtgenkcmfeeakoaaGreatDoor
open Av RowKit Proofs.Tryz
abbrev slFs:List Field:=[{ name:= "scene",type:=9,offset:=0,embedded:=false,tag:= "",pkgPath:= "backlot/take",byteOffset:=0 },{ name:= "setup",type:=9,offset:=1,embedded:=false,tag:= "",pkgPath:= "backlot/take",byteOffset:=16 },{ name:= "number",type:=3,offset:=2,embedded:=false,tag:= "",pkgPath:= "backlot/take",byteOffset:=32 }]
def slA(x:LU×Int):AV:=.agg [.str x.1,.str [],.int .i64 x.2]
theorem keyEqS_sl(a b:LU×Int):keyEqS prog slFs (slA a) (slA b)=some (a.1==b.1&&a.2==b.2):=by
 simp only[keyEqS,slA,slFs,lam,lap,decide_true,lbh,lav,eqFs,underlying9,underlying3,leafEq,bothB,if_true,lax]
 simp
def slM(l:List (LU×Int)):List (AV×AV):=l.map fun x=>(slA x,.bool true)
theorem A7B(s:LU×Int):∀ (l:List (LU×Int))(n:Nat),s ∉ l->mfindS prog slFs (slA s) (slM l) n=some none
 | [],n,_=>rfl
 | a::r,n,h=>by
  simp only[List.mem_cons,not_or]at h;have hb:(s.1==a.1&&s.2==a.2)=false:=by
   cases hq:(s.1==a.1&&s.2==a.2)with
   | false=>rfl
   | true =>
    simp only[lae,lbr]at hq;exact absurd (Prod.ext hq.1 hq.2) h.1
  simp only[slM,lal,mfindS,keyEqS_sl,hb];exact A7B s r (n+1) h.2
theorem BwL(n:Nat)(l:List (LU×Int)):lowB n (.mp (slM l))=true:=by
 show(slM l).all _=true
 rw[lbk];intro x hx;simp only[slM,List.mem_map]at hx;obtain⟨k,_,rfl⟩:=hx;rfl
theorem B0O(n:Nat)(s:LB)(id:Nat)(ws:List Wn)(h:s.getD id .dead=.arr 2 (ws.map wnA)):borF 1 s (.sl id 0 ws.length ws.length)=.fz 2 (ws.map wnA):=by
 show bor (0+1) s (.sl id 0 ws.length ws.length)=_
 rw[bor_sl,h];simp only[laq,laa,decide_true,lad,lbh,lav,lcj,AV.fz.injEq,true_and];rw[laj (by simp),lbi];exact lbg fun x _=>rfl
theorem BtF:∀ l:List Wn,(flat (l.map wnA)).all Av.frozen=true
 | []=>rfl
 | x::r=>by simpa[flat,cellsOf,wnA,Av.frozen]using BtF r
def keyT(t:Tk):LU×Int:=(t.scene,t.number)
def winT(t:Tk):Wn:=⟨t.inn,t.out⟩
theorem TakesOk.new{x:Sr}{r:Rl}{l:List Tk}(hok:TakesOk x r l)(hl:∀ t∈l,TkB r t)(i:Nat)(hi:i<l.length):keyT l[i] ∉ (l.take i).map keyT:=by
 intro h;obtain⟨y,hy,e⟩:=List.mem_map.1 h;have hd:=(hok.at' i _ (lab hi)).dup;rw[List.any_eq_false]at hd;have h2:=hd y hy;simp only[keyT,lck]at e;have hy':=hl y (lau hy);have hi':=hl _ (lac hi);apply h2
 simp[dupB,e.1,e.2,hy'.setup,hi'.setup]
theorem TakesOk.free{x:Sr}{r:Rl}{l:List Tk}(hok:TakesOk x r l)(hl:∀ t∈l,TkB r t)(i:Nat)(hi:i<l.length):(((l.take i).map winT).any fun w=>decide (w.frm<l[i].out)&&decide (l[i].inn<w.to'))=false:=by
 have hd:=(hok.at' i _ (lab hi)).busy;rw[List.any_eq_false]at hd |-;intro w hw;obtain⟨y,hy,rfl⟩:=List.mem_map.1 hw;have h2:=hd y hy;have hy':=hl y (lau hy);have hi':=hl _ (lac hi);simp only[busyB,hy'.roll,hi'.roll,lbl,lbt]at h2;exact h2
theorem ren_scM(σ:List Nat):∀ (l:List Sc)(n:Nat),(scMF n l).map (fun x=>(x.1,renV σ x.2))=scMF n l
 | [],n=>rfl
 | y::r,n=>by simp only[scMF,lal,ren_scM σ r (n+1)]; rfl
theorem BfZ(σ:List Nat):∀ (l:List (LU×Int)),(slM l).map (fun x=>(x.1,renV σ x.2))=slM l
 | []=>rfl
 | y::r=>by
  have:=BfZ σ r;simp only[slM,lal]at this |-;rw[this]; rfl
theorem BgA(xs:List Sc)(ks:List (LU×Int))(nm:LU)(a b:Int)(b3 b4 b5 b6:Blk) :
  renS [0,1,2,7] (.mp (scMF 0 xs)::.mp (slM ks)::.mp [(.str nm,.sl 7 0 1 1)]::b3::b4::b5::b6::[.arr 2 [.agg [.int .i64 a,.int .i64 b]]])=[.mp (scMF 0 xs),.mp (slM ks),.mp [(.str nm,.sl 3 0 1 1)],.arr 2 [.agg [.int .i64 a,.int .i64 b]]]:=by
 have h:renS [0,1,2,7] (.mp (scMF 0 xs)::.mp (slM ks)::.mp [(.str nm,.sl 7 0 1 1)]::b3::b4::b5::b6::[.arr 2 [.agg [.int .i64 a,.int .i64 b]]]) =
  [.mp ((scMF 0 xs).map fun x=>(x.1,renV [0,1,2,7] x.2)),.mp ((slM ks).map fun x=>(x.1,renV [0,1,2,7] x.2)),.mp [(.str nm,.sl 3 0 1 1)],.arr 2 [.agg [.int .i64 a,.int .i64 b]]]:=rfl
 rw[h,ren_scM,BfZ]
structure FilmW(x:Sr)(r:Rl)(rs:List Rl)(l:List Tk):Prop where
 story:StW x
 rolls:RollsOk (r::rs)
 names:∀ y∈r::rs,y.name∈RnL
 many:rs.length=2
 takes:∀ t∈l,TkB r t
 len:l.length<=15
 ok:TakesOk x r l
theorem FilmOk.w{x:Sr}{r:Rl}{rs:List Rl}{l:List Tk}(h:FilmOk x r rs l):FilmW x r rs l:=⟨h.story.w,h.rolls,h.names,h.many,h.takes,h.len,h.ok⟩
theorem AoX{S:Std}(hS:LibR S)(x:Sr)(r:Rl)(rs:List Rl)(l:List Tk)(hf:FilmW x r rs l) :
  PcH prog S 40 [srA x,.fz 5 ((r::rs).map rlA),.fz 9 (l.map tkA)] (· = .int .i64 0):=by
 have hx:=hf.story;have hlen:=hx.len;have hll:=hf.len;have hok:=hf.ok;have htb:=hf.takes;have hm:=hf.many;have h1:=AgS hS x hx;have h2:=AvH (r::rs) hf.rolls hf.names;have h3:=AgH x hx;have d1:decide ((l.length:Int)>3000)=false:=by simp; omega
 obtain⟨hro0,_⟩:=hf.rolls.at' 0 r rfl;have hrs:=hro0.start;have hrg:=hro0.long;have hdb:0<=dayR r.rate/\dayR r.rate<=2592000:=by
  have:=hro0.rate;obtain h|h|h|h:r.rate=1\/r.rate=2\/r.rate=3\/r.rate=4:=by omega
  all_goals rw[h]; decide
 have hro1:=BfU r rs (by omega);have hro2:=BaA (r::rs) (by simp; omega) (fun y hy=>by
  obtain⟨i,hi,rfl⟩:=List.getElem_of_mem hy;exact B0N (hf.rolls.at' i _ (lab hi)).1.name)
 have hset:=BaC;simp only[srA,lal,rlA,rlZ]at h1 h2 h3 hro1 hro2 |-;refine zqIB func40 rfl fun h ρ w hg=>?_
 simp only[go_sem];refine zqB hg (h1) ?_;simp only[go_sem];refine zpB (h2) ?_;simp only[go_sem,d1,laa];refine za (h3) ?_;rintro _ _ ⟨rfl,rfl⟩;apply zgB;simp only[go_sem,laa];refine AaE (ι:=Nat) (fun y=>l.length-y)
  (fun y=>[(40,.int .i64 y),(39,.int .i64 l.length),(38,.fz 9 (l.map tkA)),(9,.mp 0),(10,.mp 1),(11,.mp 2),(3,.pin 2 [.agg [.str x.Lk,.fz 5 (x.Lc.map scA)]] 0 0),(1,.fz 5 (.agg [.str r.name,.int .i64 r.rate,.int .i64 r.start,.int .i64 r.long,.int .i64 r.drift]::rs.map rlA)),(2,.fz 9 (l.map tkA))])
  (fun y=>.mp (scMF 0 x.Lc)::.mp (slM ((l.take y).map keyT))::(if y=0 then[.mp []] else[.mp [(.str r.name,.sl 3 0 ((l.take y).map winT).length ((l.take y).map winT).length)],.arr 2 (((l.take y).map winT).map wnA)]))
  (fun y=>y<=l.length) 0 (by simp) ?_ ?_
 .refine Lt ?_ rfl
  simp only[go_sem,laa]
 intro i g1 J hJ
 by_cases gi:i<l.length
 .have di:decide ((i:Int)<(l.length:Int))=true:=by simp; omega
  have hget:=AjA l i gi;have hti:=hok.at' i _ (lab gi);have hb:=htb _ (lac gi);obtain⟨j,hj,hjs⟩:=(AiB x l[i].scene).resolve_left (by have:=hti.scene; omega);obtain⟨s1,s2⟩:=AsF hx hj hjs;have m0:=AkA x.Lc 0 0 j hj s1 s2;rw[laq]at m0;have mS:=A7B (keyT l[i]) ((l.take i).map keyT) 0 (hok.new htb i gi);have mP:slM ((l.take i).map keyT)++[(slA (keyT l[i]),.bool true)]=slM ((l.take (i+1)).map keyT):=by
   rw[List.take_add_one,lab gi,lak,slM,slM,lak];rfl
  have hcov:=AqX l[i] x.Lc[j].Ld.length hb.len (hx.few _ (lac hj)) (fun k c hc=>hti.cov j hj hjs k c hc);have hfree:=hok.free htb i gi;have hwin:=BnZ 92 [.pin 9 [tkA l[i]] 0 0] rfl (fun w=>decide (w.frm<l[i].out)&&decide (l[i].inn<w.to')) ((l.take i).map winT) (by simp; omega) (fun w _=>BoJ w l[i]);rw[hfree]at hwin;have hgs:=AgE x.Lc j hj;have hfin:=hJ (i+1) (by omega) (by omega);rw[if_neg (by omega)]at hfin;have hwl:((l.take i).map winT).length=i:=by simp; omega
  have hW:(l.take (i+1)).map winT=(l.take i).map winT++[winT l[i]]:=by
   rw[List.take_add_one,lab gi,lak];rfl
  rw[hW]at hfin;have b1:=hb.setup;have b2:=hb.number;have b3:=hb.roll;have b4:=hb.sound;have b5:=hb.inn;have b6:=hb.out;have hhold:=BfW r l[i].inn l[i].out ⟨by omega,by omega⟩ ⟨by omega,by omega⟩;rw[hti.hold]at hhold;have n1:decide (l[i].number<1)=false:=by simp; omega
  have n2:decide (l[i].number>99)=false:=by simp; omega
  have hsc:(x.Lc[j].Ld.map paA).length=x.Lc[j].Ld.length:=by simp
  generalize hti':l[i]=t at *;generalize x.Lc[j]=y at *;simp only[tkA,rlA,b1,b3,b4,slA,keyT,winT]at hget hhold mS mP hcov hwin hfin
  by_cases h0:i=0
  .have hw0:(l.take i).map winT=[]:=by rw[h0]; rfl
   rw[if_pos h0];simp only[hw0,las,lbx,lam,lap,laq,lal,wnA]at hfin hwin;apply zgB;simp only[go_sem,di,hget,m0,laa]
   repeat refine ak ?_
   refine zpB (hset) ?_;simp only[go_sem,n1,n2,mS,mP]
   repeat refine ak ?_
   refine zpB (hro1) ?_;simp only[go_sem];refine zpB (hro2) ?_;simp only[go_sem];refine zpB (hhold) ?_;simp only[go_sem];have hbor:=Ct.borrowF (P:=prog) (f:=91) (args:=[.raw (.slice none 0 0),.fn (.func 92) [.ptr 3 1 0 0]]) 1 [.mp (scMF 0 x.Lc),.mp (slM ((l.take (i+1)).map keyT)),.mp [],.arr 9 [.agg [.str t.scene,.str [],.int .i64 t.number,.str r.name,.str [],.int .i64 t.inn,.int .i64 t.out,.bool t.good,.fz 4 (t.covers.map cvA)]],.arr 3 [.agg [.str t.scene,.str [],.int .i64 t.number]],.arr 5 [.agg [.str r.name,.int .i64 r.rate,.int .i64 r.start,.int .i64 r.long,.int .i64 r.drift]],.arr 5 [.agg [.str [],.int .i64 0,.int .i64 0,.int .i64 0,.int .i64 0]]] hwin.nilarg (by rintro r rfl; rfl);refine za (hbor) ?_;rintro _ _ ⟨rfl,rfl⟩;apply zgB;simp only[go_sem]
   repeat refine ak ?_
   refine BfB (7) [] AaI (by decide) rfl rfl 100 ?_;simp only[go_sem,laa,cka,isApp,appOk]
   repeat refine ai ?_
   apply zgB;simp only[go_sem];refine zr [.int .i64 0] AaI ?_;simp only[go_sem,hgs,laa]
   repeat refine And.intro (by first|omega|rfl|kernel_rfl|exact hcov.at|(simp; done)|(simp; omega)) ?_
   apply zgB;simp only[go_sem]
   repeat refine ak ?_
   rw[ic i];refine ainv hfin (Shift.trans (Shift.ren [0,1,2,7] rfl) (Lt ?_ ?_))
   .simp only[renE,go_sem,renV,renC,ren1]
    repeat(first|rfl|refine And.intro rfl ?_)
   .exact BgA x.Lc ((l.take (i+1)).map keyT) r.name t.inn t.out _ _ _ _
  .rw [if_neg h0]
   obtain⟨ws,hws⟩:∃ ws,ws=(l.take i).map winT:=⟨_,rfl⟩;rw[<- hws]at hwin hwl hfin |-;have mU:mfind .string (.str r.name) [(AV.str r.name,AV.sl 3 0 ws.length ws.length)] 0=some (some (0,AV.sl 3 0 ws.length ws.length)):=by simp[mfind,keyEq]
   simp only[lak,lah,lam,lap,lal,las,laq,wnA]at hfin;apply zgB;simp only[go_sem,di,hget,m0,laa]
   repeat refine ak ?_
   refine zpB (hset) ?_;simp only[go_sem,n1,n2,mS,mP]
   repeat refine ak ?_
   refine zpB (hro1) ?_;simp only[go_sem];refine zpB (hro2) ?_;simp only[go_sem];refine zpB (hhold) ?_;simp only[go_sem,mU]
   repeat refine ak ?_
   have hbor:=Ct.borrowF (P:=prog) (f:=91) (args:=[.sl 3 0 ws.length ws.length,.fn (.func 92) [.ptr 4 1 0 0]]) 1 [.mp (scMF 0 x.Lc),.mp (slM ((l.take (i+1)).map keyT)),.mp [(.str r.name,.sl 3 0 ws.length ws.length)],.arr 2 (ws.map wnA),.arr 9 [.agg [.str t.scene,.str [],.int .i64 t.number,.str r.name,.str [],.int .i64 t.inn,.int .i64 t.out,.bool t.good,.fz 4 (t.covers.map cvA)]],.arr 3 [.agg [.str t.scene,.str [],.int .i64 t.number]],.arr 5 [.agg [.str r.name,.int .i64 r.rate,.int .i64 r.start,.int .i64 r.long,.int .i64 r.drift]],.arr 5 [.agg [.str [],.int .i64 0,.int .i64 0,.int .i64 0,.int .i64 0]]] (post:=(· = .bool false)) (by
    simp only[lal,las];rw[B0O 1 _ 3 ws rfl];exact hwin) (by rintro r rfl; rfl)
   refine za (hbor) ?_;rintro _ _ ⟨rfl,rfl⟩;apply zgB;simp only[go_sem]
   repeat refine ak ?_
   refine BfB (3) [] AaI (by decide) rfl rfl 100 ?_;simp only[go_sem,mU,laa,cka,isApp,appOk]
   repeat refine ai ?_
   apply zgB;simp only[go_sem];refine zr [.int .i64 0] AaI ?_;simp only[go_sem,hgs,laa]
   repeat refine And.intro (by first|omega|rfl|kernel_rfl|exact hcov.at|(simp; done)|(simp; omega)) ?_
   apply zgB;simp only[go_sem]
   repeat refine ak ?_
   rw[ic i];refine ainv hfin (Shift.low 4 (by simp) (by simp) ?_ ?_)
   .simp only[go_sem,↓A3B,↓BwL,lowB,flat,flat_append,lbo,AaD (BtF _)]
   .simp only [go_sem]
 .have di:decide ((i:Int)<(l.length:Int))=false:=by simp; omega
  apply zgB;simp only[go_sem,di];exact zt [6]
theorem lowC_succ{n:Nat}{v:AV}(h:lowC n v=true):lowC (n+1) v=true:=by
 cases v <;> simp only[lowC,lag]at h |- <;> first|omega|exact h
theorem lowV_succ{n:Nat}{v:AV}(h:lowV n v=true):lowV (n+1) v=true:=by
 cases v<;>grind[lowV,lowC_succ]
theorem lowB_succ{n:Nat}{b:Blk}(h:lowB n b=true):lowB (n+1) b=true:=by
 cases b with
 | arr e l=>simp only[lowB,lbk]at h |-; exact fun x hx=>lowC_succ (h x hx)
 | mp es=>simp only[lowB,lbk]at h |-; exact fun x hx=>lowV_succ (h x hx)
 | it m n' s=>simp only[lowB,lag]at h |-; omega
 | dead=>rfl
theorem low_more{T:LB}{y:Blk}(h:T.all (lowB T.length)=true)(hy:lowB (T.length+1) y=true):(T++[y]).all (lowB (T++[y]).length)=true:=by
 rw[lah,List.length_singleton,lbo,lat,lbn,hy,lax,lax];rw[lbk]at h |-;exact fun b hb=>lowB_succ (h b hb)
theorem low_set{T:LB}{i:Nat}{y:Blk}(h:T.all (lowB T.length)=true)(hy:lowB T.length y=true):(T.set i y).all (lowB (T.set i y).length)=true:=by
 rw[List.length_set];rw[lbk]at h |-;intro b hb
 rcases List.mem_or_eq_of_mem_set hb with hb|rfl
 .exact h b hb
 .exact hy
theorem gd_app{T:LB}{k:Nat}{b:Blk}(h:T[k]? = some b)(y:Blk):(T++[y]).getD k .dead=b:=by
 rw[lay,lbf (List.getElem?_eq_some_iff.1 h).1,h]; rfl
theorem gd_end(T:LB)(y d:Blk):(T++[y]).getD T.length d=y:=by simp[List.getD]
theorem st_end(T:LB)(x y:Blk):(T++[x]).set T.length y=T++[y]:=by simp
theorem gd_of{T:LB}{k:Nat}{b:Blk}(h:T[k]? = some b):T.getD k .dead=b:=by
 rw[lay,h]; rfl
theorem AdM{T:LB}{k j:Nat}{b:Blk}(h:T[k]? = some b)(hj:j≠k)(y:Blk):(T.set j y)[k]? = some b:=by
 rw[lbm hj]; exact h
def BoK(last:Option Pp')(s:Stp)(p:Pp'):Scr:=match last with
 | none=>s.scr p
 | some l=>cost s.scr l p
def BoL(last:Option Pp')(s:Stp):Scr:=match last with
 | none=>s.best
 | some l=>BfC s l
theorem pick_ok{s:Stp}(hs:StpOk s)(last:Option Pp'):∃ p,s.parts.find? (fun p=>BoK last s p==BoL last s)=some p/\p∈s.parts/\BoK last s p=BoL last s:=by
 have he:∃ q∈s.parts,BoK last s q=BoL last s:=by
  cases last with
  | none=>exact hs.1
  | some l=>exact(BnT hs.1 hs.2 l).1
 cases hf:s.parts.find? (fun p=>BoK last s p==BoL last s)with
 | none =>
  obtain⟨q,hq,e⟩:=he;have:=List.find?_eq_none.1 hf q hq
  simp[e]at this
 | some p =>
  have h1:=lcr hf;have h2:=List.find?_some hf;exact⟨p,rfl,h1,by simpa using h2⟩
theorem low_mono{n m:Nat}(h:n<=m){b:Blk}(hb:lowB n b=true):lowB m b=true:=by
 induction h<;>grind[lowB_succ]
theorem low_app{T U:LB}(h:T.all (lowB T.length)=true)(hU:U.all (lowB (T.length+U.length))=true):(T++U).all (lowB (T++U).length)=true:=by
 rw[lah,lbo,hU,lax,lbk];rw[lbk]at h;exact fun b hb=>low_mono (by omega) (h b hb)
theorem shift_lowE{c:Cx}{e e':Env}{s:LB}(T U V:LB)(hs:s=T++(U++V))(hc:c.sto.length<=T.length)(hT:T.all (lowB T.length)=true)(hU:U.all (lowB (T.length+U.length))=true)(hw:wkl (T.length+U.length) e e'):Shift c e s e' (T++U):=by
 subst hs;rw[<- lbu];have h:=Shift.low (c:=c) (e:=e) (e':=e') (s:=(T++U)++V) (T.length+U.length) (by omega) (by simp) (by rw[<- lah,List.take_left]; exact low_app hT hU) hw;rw[<- lah,List.take_left]at h;exact h
def isSp(y:Sc)(k:Nat):Bool:=(y.Ld.getD k ⟨0,[]⟩).kind==4
end Go.Proofs.YtgenkcmfeeakoaaGreatDoor
namespace Go.Av
open RowKit
variable [Tr]
variable {c:Cx}{s:LB}
theorem BgB{g:Std}(hle:Le g c.w c.ρ){f:FuncId}{args:LA}{post:AV->Prop}{K:AV->LB->Prop}(hc:PcH c.P g f args post)(ha:args.all nr1=true){id:Nat}{blk:Blk}(hid:s[id]? = some blk)
  (hin:∃ r,post r) (hk:∀ r,post r->K r s):BeA c f args id s K:=by
 have hsame:∀ {t:LB},t[id]? = some blk->t.set id blk=t:=fun{t} h=>by
  apply lbz;intro k;rw[List.getElem?_set]
  split
  .rename_i e
   subst e
   split
   .exact h.symm
   .rename_i h2
    rw[List.getElem?_eq_none (by omega)]
  .rfl
 refine⟨blk,fun r b=>b=blk/\post r,hid,⟨hc.1,fun h ρ t w vs hs m l rr=>?_⟩,?_,?_⟩
 .refine ((hc.cth ha t).2 h ρ w vs (hle.later l) m rr).mono ?_
  rintro en w' ⟨v,r,s',h',ρ',rfl,⟨hp,rfl⟩,m',l',rv⟩;exact⟨v,r,blk,h',ρ',rfl,⟨rfl,hp⟩,by rw[hsame hs]; exact m',by rw[hsame hs]; exact l',by rw[hsame hs]; exact rv⟩
 .obtain ⟨r,hr⟩:=hin
  exact⟨r,blk,rfl,hr⟩
 .rintro r b ⟨rfl,hr⟩
  rw[hsame hid];exact hk r hr
end Go.Av
namespace Go.Av
open RowKit
variable [Tr]
theorem Agr.rfl'{n id:Nat}{s:LB}:Agr n id s s:=fun _ _ _=>rfl
def AsG(c:Cx)(n:Nat)(f:FuncId)(args:LA)(id:Nat)(s:LB)(K:AV->LB->Prop):Prop :=
 ∃ post:AV->LB->Prop,(AaB c.P f=true/\∀ h ρ w vs,Mine h ρ s w->Later c.h c.ρ c.sto c.w h ρ s w->RL h (Lf ρ s) false vs args->Calls c.P f vs.toArray w fun en w' =>
  ∃ v r s' h' ρ',en=.returned v/\post r s'/\Mine h' ρ' s' w'/\Later h ρ s w h' ρ' s' w'/\RV h' (Lf ρ' s') false v r)/\(∃ r s',post r s')/\∀ r s',post r s'->Agr n id s s'/\K r s'
def ImpC(c:Cx)(n:Nat)(id:Nat)(o:Oper)(e:Env)(s:LB)(K:AV->LB->Prop):Prop :=
 o.guard=none/\∃ f args,xop false true c.P e s o.op=.call f args/\AsG c n f args id s K
def ChC(c:Cx)(ops:Array Oper)(im:List Nat)(n0 id:Nat)(K:Env->LB->Prop):List Nat->Env->LB->Prop
 | [],e,s=>K e s
 | i::r,e,s=>match ops[i]? with
  | none=>False
  | some o=>bif im.contains i then ImpC c n0 id o e s (fun v s'=>ChC c ops im n0 id K r (put e o.dst v) s')
   else(reader o.op=true->blind o.op=false->opOk n0 id e o.op=true)/\∃ cv v s',Does c ops s o cv e v s'/\ChC c ops im n0 id K r (put e o.dst v) s'
def okC(ops:List Oper)(im:List Nat)(j i:Nat):Bool:=match ops[j]?,ops[i]? with
 | some oj,some oi=>oj.apart ops.toArray oi&&(bif im.contains i then !im.contains j&&reader oj.op else bif im.contains j then reader oi.op else together oj oi)
 | _,_=>false
section
variable {cx:Cx}{ops:Array Oper}{s:LB}{K:Env->LB->Prop}{im:List Nat}{n0 id:Nat}
theorem ImpC.agree{o:Oper}{e e':Env}{s:LB}{K K':AV->LB->Prop}(h:∀ x∈o.op.operands,ev e x=ev e' x)(hK:∀ r s,K r s->K' r s)(x:ImpC cx n0 id o e s K):ImpC cx n0 id o e' s K':=by
 obtain⟨h1,f,args,h2,post,h4,h5,h6⟩:=x;exact⟨h1,f,args,by rw[<- xop_agree h]; exact h2,post,h4,h5,fun r b hp=>⟨(h6 r b hp).1,hK _ _ (h6 r b hp).2⟩⟩
theorem ChC.congr(hK:∀ e e' s,Eqv e e'->K e s->K e' s):∀ {l:List Nat}{e e':Env}{s:LB},Eqv e e'->ChC cx ops im n0 id K l e s->ChC cx ops im n0 id K l e' s
 | [],e,e',s,h,x=>hK e e' s h x
 | i::r,e,e',s,h,x=>by
  unfold ChC at x |-
  split at x
  .exact x.elim
  .rename_i o ho
   cases hi:im.contains i with
   | true =>
    rw[hi]at x;exact ImpC.agree (fun y _=>AeQ fun t _=>h t) (fun r' s' z=>ChC.congr hK (h.put _ _) z) x
   | false =>
    rw[hi]at x;obtain⟨h1,cv,v,s',h2,h3⟩:=x;exact⟨fun hr hb=>by rw[<- opOk_agree (e:=e) (fun y _=>AeQ fun t _=>h t)]; exact h1 hr hb,cv,v,s',h2.agree fun t _=>h t,ChC.congr hK (h.put _ _) h3⟩
theorem ChC.swap{opl:List Oper}(hops:ops=opl.toArray)(hK:∀ e e' s,Eqv e e'->K e s->K e' s){i j:Nat}{r:List Nat}(hok:okC opl im j i=true){e:Env}{s:LB}(x:ChC cx ops im n0 id K (j::i::r) e s) :
  ChC cx ops im n0 id K (i::j::r) e s:=by
 unfold okC at hok
 split at hok
 rotate_left
 .cases hok
 rename_i oj oi hj' hi';have hj:ops[j]? = some oj:=by rw[hops]; simpa using hj'
 have hi:ops[i]? = some oi:=by rw[hops]; simpa using hi'
 simp only[lae]at hok;obtain⟨ha,hok⟩:=hok;rw[<- hops]at ha;obtain⟨a1,a2,a3⟩:=Oper.apart_spec ha;have gi:∀ (e:Env) (v:AV),AiV ops oi (put e oj.dst v) e:=fun e v t ht=>by
  rw[get_put,if_neg]; intro h; exact a1 t h ht
 have gj:∀ (e:Env) (v:AV),AiV ops oj e (put e oi.dst v):=fun e v t ht=>by
  rw[get_put,if_neg]; intro h; exact a3 t h ht
 have sw:∀ (e:Env) (v u:AV),Eqv (put (put e oj.dst v) oi.dst u) (put (put e oi.dst u) oj.dst v):=fun e v u=>AjP a2
 simp only[ChC,hi,hj]at x |-
 cases mi:im.contains i with
 | true =>
  rw[mi]at hok x;simp only[lav,lae,lbv]at hok;obtain⟨mj,rj⟩:=hok;rw[mj]at x |-;simp only[lav,lbp]at x |-;obtain⟨o1,cv,v,s',d1,y⟩:=x;obtain⟨rfl,_⟩:=AaJ rj (o1 rj) (Agr.rfl' (n:=n0) (id:=id)) d1;obtain⟨h1,f,args,h2,post,h4,h5,h6⟩:=y;refine⟨h1,f,args,by rw[<- xop_agree (AaG (gi e v))]; exact h2,post,h4,h5,fun u b hp=>?_⟩;obtain⟨ag,hy⟩:=h6 u b hp;have hs:=(AaJ rj (o1 rj) ag d1).2;refine⟨ag,fun _ hb=>?_,cv,v,_,hs.agree (gj e u),ChC.congr hK (sw e v u) hy⟩;rw[<- opOk_agree (e:=e) (AaG (gj e u))];exact o1 rj hb
 | false =>
  rw[mi]at hok x;simp only[lbp]at hok x |-
  cases mj:im.contains j with
  | true =>
   rw[mj]at hok x;simp only[lav]at hok x |-;obtain⟨h1,f,args,h2,post,h4,⟨u0,b0,h5⟩,h6⟩:=x;obtain⟨ag0,o0,cv0,v0,s0,d0,z0⟩:=h6 u0 b0 h5;have ok0:blind oi.op=false->opOk n0 id e oi.op=true:=fun hb=>by
    have:=o0 hok hb;rw[opOk_agree (AaG (gi e u0))]at this;exact this
   have d0':Does cx ops b0 oi cv0 e v0 s0:=d0.agree (gi e u0);have d0s:=(AaJ hok ok0 ag0.symm d0').2;refine⟨fun _=>ok0,cv0,v0,s,d0s,h1,f,args,?_,post,h4,⟨u0,b0,h5⟩,fun u b hp=>?_⟩
   .rw [<- xop_agree (AaG (gj e v0))]; exact h2
   .obtain ⟨ag,_,cv,v,s',d,y⟩:=h6 u b hp
    have d':Does cx ops b oi cv e v s':=d.agree (gi e u);obtain⟨e1,ds⟩:=AaJ hok ok0 ag.symm d';subst e1;have:=does_det hok d0s ds;subst this;exact⟨ag,ChC.congr hK (sw e u v0) y⟩
  | false =>
   rw[mj]at hok x;simp only[lbp]at hok x |-;obtain⟨o1,cv,v,s1,h1,o2,cu,u,s2,h2,h3⟩:=x;have h2':Does cx ops s1 oi cu e u s2:=h2.agree (gi e v);have h1':∀ {z z'},Does cx ops z oj cv e v z'->Does cx ops z oj cv (put e oi.dst u) v z':=fun hd=>hd.agree (gj e u)
   have h3':=ChC.congr hK (sw e v u) h3;have oi':∀ {n},reader oi.op=true->opOk n id (put e oj.dst v) oi.op=opOk n id e oi.op:=fun _=>opOk_agree (AaG (gi e v))
   have oj':∀ {n},opOk n id e oj.op=opOk n id (put e oi.dst u) oj.op:=opOk_agree (AaG (gj e u));simp only[lbj,lae,together]at hok
   rcases hok with(⟨c1,c2⟩|c1)|c1
   .have e1:=h1.calm c1
    subst e1;have e2:=h2.calm c2;subst e2;exact⟨fun hr hb=>by rw[<- oi' hr]; exact o2 hr hb,cu,u,_,h2',fun hr hb=>by rw[<- oj']; exact o1 hr hb,cv,v,_,h1' h1,h3'⟩
   .have e1:=h1.calm (blind_calm c1)
    subst e1;exact⟨fun hr hb=>by rw[<- oi' hr]; exact o2 hr hb,cu,u,_,h2',fun hr hb=>(by rw[c1]at hb; cases hb),cv,v,_,h1' (h1.blind c1),h3'⟩
   .have e2:=h2.calm (blind_calm c1)
    subst e2;exact⟨fun hr hb=>(by rw[c1]at hb; cases hb),cu,u,_,h2'.blind c1,fun hr hb=>by rw[<- oj']; exact o1 hr hb,cv,v,_,h1' h1,h3'⟩
theorem ChC.front{opl:List Oper}(hops:ops=opl.toArray)(hK:∀ e e' s,Eqv e e'->K e s->K e' s):∀ (l:List Nat)(i:Nat)(r:List Nat)(e:Env)(s:LB),(∀ j∈l,okC opl im j i=true) ->
  ChC cx ops im n0 id K (l++i::r) e s->ChC cx ops im n0 id K (i::(l++r)) e s
 | [],_,_,_,_,_,x=>x
 | j::l,i,r,e,s,h,x=>by
  refine ChC.swap hops hK (h j (by simp)) ?_;have ih:=fun e s=>ChC.front hops hK l i r e s fun k hk=>h k (by simp[hk])
  simp only[lbb,ChC]at x |-
  split at x
  .exact x.elim
  .rename_i o ho
   cases hm:im.contains j with
   | true =>
    rw[hm]at x;exact ImpC.agree (fun _ _=>rfl) (fun r' s' z=>ih _ _ z) x
   | false =>
    rw[hm]at x;obtain⟨h1,cv,v,s',h2,h3⟩:=x;exact⟨h1,cv,v,s',h2,ih _ _ h3⟩
end
section
variable {c:Cx}{k:List It}{e:Env}{s:LB}
theorem BoM{ops:List Oper}{im:List Nat}{n0 id:Nat}(hdst:∀ o∈ops,dOk c.fn.ntmps o.dst=true)(i:Nat)(o:Oper)(r:List Nat)(e:Env)(s:LB)(a:Act)(w:World)(Kc:Act->World->Prop)(ho:ops[i]? = some o)
  (x:ChC c ops.toArray im n0 id (fun e s=>AWp c k e s) (i::r) e s) (hs:Sim c e s a w) (hK:∀ e' s' a w,ChC c ops.toArray im n0 id (fun e s=>AWp c k e s) r e' s'->Sim c e' s' a w->Kc a w) :
  if Region.wanted o (yielded ops.toArray a.tmps) then o.wp c.P a w Kc (WQ c k) else Kc (a.put o.dst undef) w:=by
 have ho':ops.toArray[i]? = some o:=by simpa using ho
 have hd:=hdst o (lar ho);simp only[ChC,ho']at x
 cases hm:im.contains i with
 | false =>
  rw[hm]at x;obtain⟨_,cv,v,s',h2,h3⟩:=x;exact AkZ hs hd h2 fun a w hs'=>hK _ _ a w h3 hs'
 | true =>
  rw[hm]at x;obtain⟨hg,f,args,hx,post,h4,_,h6⟩:=x;rw[if_pos (by simp[Region.wanted,hg])];obtain⟨hh,ρ,hmm,hl,he,hdf,hsz,hX⟩:=hs;have hsnd:=AgV (P:=c.P) (wr:=false) (frz:=true) (o:=o) hmm he;rw[hx]at hsnd;obtain⟨vs,hv,hr⟩:=hsnd;unfold Oper.wp;rw[hr h4.1];refine(h4.2 hh ρ w vs hmm hl hv).mono ?_;rintro en w' ⟨u,r',b,h',ρ',rfl,hp,hm',hlt,rv⟩;have he':EnvOk h' ρ' b e a:=fun t=>(he t).mono hlt.hle hlt.keep
  exact hK _ _ _ _ (h6 r' b hp).2 ⟨h',ρ',hm',hl.trans hlt,he'.put (by rw[hsz]; exact hd) rv,by rw[AaU]; exact hdf,by rw[AcD]; exact hsz,c.hx.later hmm hlt hX⟩
mutual
def dxn(c:Cx)(all:List Oper)(im:List Nat)(n0 id:Nat)(k:List It):Nat->List Oper->LA->Env->LB->Prop
 | _,[],_,e,s=>AWp c k e s
 | 0,_::_,_,_,_=>False
 | n+1,o::r,cs,e,s=>bif im.contains (rix all (o::r)) then
   (match o.guard,xop false true c.P e s o.op with
    | none,.call f args=>AsG c n0 f args id s (fun v s'=>dxn c all im n0 id k n r cs (put e o.dst v) s')
    | _,_=>False)
  else dck (reader o.op&&!blind o.op) n0 id e o.op/\dxnc c all im n0 id k n (dgrd c all s o r cs e o.guard)
def dxnc(c:Cx)(all:List Oper)(im:List Nat)(n0 id:Nat)(k:List It):Nat->Dn->Prop
 | n,.go r cs e s=>dxn c all im n0 id k n r cs e s
 | n,.two b r cs e r' cs' e' s=>dbrn c all im n0 id k n b r cs e r' cs' e' s
 | n,.side p r cs e s=>p/\dxn c all im n0 id k n r cs e s
 | _,.fail=>False
def dbrn(c:Cx)(all:List Oper)(im:List Nat)(n0 id:Nat)(k:List It):Nat->Bool->List Oper->LA->Env->List Oper->LA->Env->LB->Prop
 | 0,_,_,_,_,_,_,_,_=>False
 | n+1,b,r,cs,e,r',cs',e',s=>(b=true->dxn c all im n0 id k n r cs e s)/\(b=false->dxn c all im n0 id k n r' cs' e' s)
end
theorem BgC{all:List Oper}{im:List Nat}{n0 id n:Nat} {r cs e r' cs' e' s}:dbrn c all im n0 id k (n+1) true r cs e r' cs' e' s=dxn c all im n0 id k n r cs e s:=by rw[dbrn]; simp
theorem BaD{all:List Oper}{im:List Nat}{n0 id n:Nat} {r cs e r' cs' e' s}:dbrn c all im n0 id k (n+1) false r cs e r' cs' e' s=dxn c all im n0 id k n r' cs' e' s:=by rw[dbrn]; simp
theorem BtG{all:List Oper}{im:List Nat}{n0 id n:Nat}{o:Oper}{r:List Oper}{cs:LA}(hm:im.contains (rix all (o::r))=false)(hg:o.guard=none)(h:dxn c all im n0 id k n (o::r) cs e s) :
  dck (reader o.op&&!blind o.op) n0 id e o.op/\∃ cv v n' cs' s',DoesOp c s o cv e v s'/\dxn c all im n0 id k n' r cs' (put e o.dst v) s':=by
 cases n with
 | zero=>rw[dxn]at h; exact h.elim
 | succ n =>
  rw[dxn,hm]at h;simp only[lbp]at h;refine⟨h.1,?_⟩
  replace h:=h.2
  rw[hg]at h;unfold dgrd at h;unfold DoesOp
  revert h
  cases xop false true c.P e s o.op with
  | ok u=>intro h; simp only[dres,dxnc]at h; exact⟨.any,u,n,cs,s,⟨rfl,rfl⟩,h⟩
  | side p u=>intro h; simp only[dres,dxnc]at h; exact⟨.any,u,n,cs,s,⟨h.1,rfl,rfl⟩,h.2⟩
  | sto p u s'=>intro h; simp only[dres,dxnc]at h; exact⟨.any,u,n,cs,s',⟨h.1.1,h.1.2,rfl,rfl⟩,h.2⟩
  | pick b x y =>
   intro h; simp only[dres,dxnc]at h
   cases n with
   | zero=>rw[dbrn]at h; exact h.elim
   | succ n =>
   rw[dbrn]at h;refine⟨.any,_,n,cs,s,⟨rfl,rfl⟩,?_⟩
   cases b with
   | true=>exact h.1 rfl
   | false=>exact h.2 rfl
  | call f args =>
   intro h; simp only[dres]at h
   cases cs with
   | nil=>simp only[dcall,dxnc]at h
   | cons cv cs=>simp only[dcall,dxnc]at h; exact⟨cv,cv,n,cs,s,⟨h.1.1,h.1.2,rfl,rfl⟩,h.2⟩
  | anyb p=>intro h; simp only[dres,dxnc]at h
  | stuck=>intro h; simp only[dres,dxnc]at h
theorem BoN{all:List Oper}{im:List Nat}{n0 id n:Nat}{o:Oper}{r:List Oper}{cs:LA}(hm:im.contains (rix all (o::r))=false)(h:dxn c all im n0 id k n (o::r) cs e s) :
  dck (reader o.op&&!blind o.op) n0 id e o.op/\∃ cv v n' cs' s',Does c all.toArray s o cv e v s'/\dxn c all im n0 id k n' r cs' (put e o.dst v) s':=by
 cases hg:o.guard with
 | none =>
  obtain⟨h0,cv,v,n',cs',s',h1,h2⟩:=BtG hm hg h;exact⟨h0,cv,v,n',cs',s',by unfold Does; rw[hg]; exact h1,h2⟩
 | some jw =>
  obtain⟨j,want⟩:=jw
  cases n with
  | zero=>rw[dxn]at h; exact h.elim
  | succ n =>
   rw[dxn,hm]at h;simp only[lbp]at h;refine⟨h.1,?_⟩
   replace h:=h.2
   rw[hg]at h;unfold dgrd dyld at h
   cases hy:yldD want e all[j]? with
   | none=>simp only[hy,dxnc]at h
   | some b =>
    simp only[hy]at h;have key:(b=want->∃ n',dxn c all im n0 id k n' ({ o with guard:=none }::r) cs e s)/\(b≠want->∃ n',dxn c all im n0 id k n' r cs (put e o.dst (.raw undef)) s):=by
     cases n with
     | zero=>cases want <;> simp only[lav,lbp,dxnc,dbrn]at h
     | succ n =>
      cases want <;> simp only[lav,lbp,dxnc,dbrn]at h <;> cases b <;>
       first
       | exact⟨fun _=>⟨n,h.1 rfl⟩,fun hh=>(hh rfl).elim⟩
       | exact⟨fun _=>⟨n,h.2 rfl⟩,fun hh=>(hh rfl).elim⟩
       | exact⟨fun hh=>(by cases hh),fun _=>⟨n,h.1 rfl⟩⟩
       | exact⟨fun hh=>(by cases hh),fun _=>⟨n,h.2 rfl⟩⟩
    have hy':yldD want e all.toArray[j]? = some b:=by simpa using hy
    by_cases hb:b=want
    .obtain ⟨n1,h1⟩:=key.1 hb
     obtain⟨_,cv,v,n',cs',s',h1,h2⟩:=BtG (o:={ o with guard:=none }) (by exact hm) rfl h1;refine⟨cv,v,n',cs',s',?_,h2⟩;unfold Does;rw[hg];simp only[hy'];exact .inl ⟨hb,h1⟩
    .obtain ⟨n1,h1⟩:=key.2 hb
     refine⟨.any,.raw undef,n1,cs,s,?_,h1⟩;unfold Does;rw[hg];simp only[hy'];exact .inr ⟨hb,trivial,trivial⟩
theorem AlI{all:List Oper}{im:List Nat}{n0 id:Nat}:∀ {r:List Oper}{m n:Nat}{cs:LA}{e:Env}{s:LB},(∀ (j:Nat),r[j]? = all[m+j]?)->all.length=m+r.length->dxn c all im n0 id k n r cs e s->ChC c all.toArray im n0 id (fun e s=>AWp c k e s) (List.range' m r.length) e s
 | [],m,n,cs,e,s,_,_,h=>by
  rw[dxn]at h;exact h
 | o::r,m,n,cs,e,s,hr,hlen,h=>by
  have h0:all.toArray[m]? = some o:=by have:=hr 0; simpa using this.symm
  have hix:rix all (o::r)=m:=by unfold rix; omega
  have hr':∀ j,r[j]? = all[m+1+j]?:=fun j=>by have:=hr (j+1); simpa[Nat.add_assoc,Nat.add_comm 1 j]using this
  simp only[lam,List.range'_succ,ChC,h0]
  cases hm:im.contains m with
  | true =>
   simp only[lav]
   cases n with
   | zero=>rw[dxn]at h; exact h.elim
   | succ n =>
    rw[dxn,hix,hm]at h;simp only[lav]at h
    split at h
    .rename_i f args hg hx
     obtain⟨post,h4,h5,h6⟩:=h;exact⟨hg,f,args,hx,post,h4,h5,fun u b hp=>⟨(h6 u b hp).1,AlI hr' (by simp at hlen; omega) (h6 u b hp).2⟩⟩
    .exact h.elim
  | false =>
   simp only[lbp];obtain⟨hd,cv,v,n',cs',s',h1,h2⟩:=BoN (by rw[hix]; exact hm) h;refine⟨fun hr hb=>?_,cv,v,s',h1,AlI hr' (by simp at hlen; omega) h2⟩;unfold dck at hd
   simpa[hr,hb]using hd
theorem B0P(im:List Nat)(bid:Nat)(cs:LA){id:Nat}{ops:List Oper}(hm:c.P.follows .mixedOrders=true)(hok:AiW (okC ops im) ops=true){N:Nat}(hN:c.fn.ntmps=N)(hdst:ops.all (fun o=>dOk N o.dst)=true)(n:Nat)
  (h:dxn c ops im s.length bid k n ops cs e s):AWp c (.code (.region id ops.toArray true)::k) e s:=by
 intro a w hsim;obtain⟨n1,hn1⟩:∃ n1,n1=s.length:=⟨_,rfl⟩;rw[<- hn1]at h;have hch:=AlI (m:=0) (by intro j; simp) (by simp) h;rw[<- List.range_eq_range']at hch;refine wp_region_any hm ?_;have hsim':Sim c e s a { w with drawn:=w.drawn+1 }:=by
  obtain⟨hh,ρ,hmm,hl,he,hdf,hsz,hX⟩:=hsim;have sm:Same w { w with drawn:=w.drawn+1 }:=Same.drew w;exact⟨hh,ρ,hmm.same sm,hl.trans (Later.same sm),he,hdf,hsz,c.hx.later hmm (Later.same sm) hX⟩
 have hd:∀ o∈ops,dOk c.fn.ntmps o.dst=true:=fun o ho=>by rw[hN]; exact(List.all_eq_true.1 hdst) o ho
 refine AfI (okp:=okC ops im) (ChC c ops.toArray im n1 bid (fun e s=>AWp c k e s)) hok (fun e s x=>x) (fun l i r e s hj x=>ChC.front rfl AWp.K l i r e s hj x) (fun i o r e s a w Kc ho x hs hK=>BoM hd i o r e s a w Kc ho x hs hK)
  ops.length (Array.replicate ops.length false) (List.range ops.length) e s a _ (by simp) ?_ (by simp) ?_ hch hsim'
 .symm
  rw[List.filter_eq_self];intro i hi
  simp at hi
  simp[hi]
 .intro i hi j hj
  exfalso
  by_cases h1:i<ops.length
  .simp [h1]at hi
  .unfold waits at hj
   have:ops[i]? = none:=by simp; omega
   simp[this]at hj
theorem icc{n:Nat}{f:FuncId}{args:LA}{post:AV->LB->Prop}{K:AV->LB->Prop}{id:Nat}(hc:Ct c.P f args s post)(hin:∃ r s',post r s')(hk:∀ r s',post r s'->Agr n id s s'/\K r s'):AsG c n f args id s K :=
 ⟨post,⟨hc.1,fun h ρ w vs m l rr=>hc.2 h ρ w vs m rr⟩,hin,hk⟩
theorem Agr.push'{n id:Nat}{s:LB}(h:n<=s.length)(t:LB):Agr n id s (s++t):=fun i hi _=>by
 rw[lay,lay,lbf (by omega)]
end
end Go.Av
namespace Go.Av
open RowKit
variable [Tr]
def okD(ops:List Oper)(im lk:List Nat)(j i:Nat):Bool:=!(im.contains i&&lk.contains j)&&!(im.contains j&&lk.contains i)&&match ops[j]?,ops[i]? with
 | some oj,some oi=>oj.apart ops.toArray oi&&(bif im.contains i then !im.contains j&&reader oj.op else bif im.contains j then reader oi.op else together oj oi)
 | _,_=>false
section
variable {cx:Cx}{ops:Array Oper}{s:LB}{K:Env->LB->Prop}{im lk:List Nat}{n0 id:Nat}
end
section
variable {c:Cx}{k:List It}{e:Env}{s:LB}
mutual
def dxd(c:Cx)(all:List Oper)(im lk:List Nat)(n0 id:Nat)(k:List It):Nat->List Oper->LA->Env->LB->Prop
 | _,[],_,e,s=>AWp c k e s
 | 0,_::_,_,_,_=>False
 | n+1,o::r,cs,e,s=>bif im.contains (rix all (o::r)) then
   (match o.guard,xop false true c.P e s o.op with
    | none,.call f args=>AsG c n0 f args id s (fun v s'=>dxd c all im lk n0 id k n r cs (put e o.dst v) s')
    | _,_=>False)
  else dck (reader o.op&&!blind o.op&&!lk.contains (rix all (o::r))) n0 id e o.op/\dxdc c all im lk n0 id k n (dgrd c all s o r cs e o.guard)
def dxdc(c:Cx)(all:List Oper)(im lk:List Nat)(n0 id:Nat)(k:List It):Nat->Dn->Prop
 | n,.go r cs e s=>dxd c all im lk n0 id k n r cs e s
 | n,.two b r cs e r' cs' e' s=>dbrd c all im lk n0 id k n b r cs e r' cs' e' s
 | n,.side p r cs e s=>p/\dxd c all im lk n0 id k n r cs e s
 | _,.fail=>False
def dbrd(c:Cx)(all:List Oper)(im lk:List Nat)(n0 id:Nat)(k:List It):Nat->Bool->List Oper->LA->Env->List Oper->LA->Env->LB->Prop
 | 0,_,_,_,_,_,_,_,_=>False
 | n+1,b,r,cs,e,r',cs',e',s=>(b=true->dxd c all im lk n0 id k n r cs e s)/\(b=false->dxd c all im lk n0 id k n r' cs' e' s)
end
end
end Go.Av
namespace Go.Proofs.YtgenkcmfeeakoaaGreatDoor
open Av RowKit
end Go.Proofs.YtgenkcmfeeakoaaGreatDoor
namespace Go.Av
open RowKit
variable [Tr]
section
variable {cx:Cx}{ops:Array Oper}{K:Env->LB->Prop}{ids lk:List (Nat×Nat)}
end
section
variable {c:Cx}{k:List It}{e:Env}{s:LB}
end
end Go.Av
namespace Go.Proofs.YtgenkcmfeeakoaaGreatDoor
open Av RowKit
