/- The reference's faults of a story. -/
import Derived.Test.YtgenkcmfeeakoaaGreatDoorX17
set_option maxRecDepth 100000
set_option maxHeartbeats 2000000
set_option linter.all false
namespace Go.Proofs
open Shelf Proofs.Tryz
theorem Tryz.Builder_Extra_156:Builder.Extra prog Tryz.lays156_ren:={
 sizeBuilder:=by kernel_rfl
 liesBuilder:=by kernel_rfl
 t5:=underlying5
 a5:=Tryz.isAgg5
 z5:=Tryz.sizeOf5
 v5:=Tryz.zeroValue5
 infoByte:=by kernel_rfl
 cellsByte:=by kernel_rfl
 sizeByte:=by kernel_rfl
 neB5:=by decide }
end Go.Proofs
namespace Go.Proofs.YtgenkcmfeeakoaaGreatDoor
open Av RowKit Proofs.Tryz
theorem h_str{h:Mem}{v:Value}{s:LU}(r:RV h Lf0 true v (.str s)):v=.string ⟨s.toArray⟩:=by cases r<;>grind
structure LibR(S:Std):Prop where
 ok:LibOk S
 spc:∃ t z,S 0=some (.cells (Lib.asciiSpaceTab.map fun z=>Value.int .u8 z).toArray t z)
theorem BnR{sep:LU}{m:Nat}:∀ {ls:List LU},(∀ x∈ls,x.length<=m)->(Lib.join ls sep).length<=ls.length*(m+sep.length)
 | [],_=>by simp[Lib.join]
 | x::r,h=>by
  rw[Lib.join_cons,lah];have h1:=h x (by simp);have h2:(Lib.joinTail sep r).length<=r.length*(m+sep.length):=by
   unfold Lib.joinTail
   induction r<;>grind[Nat.add_mul]
  grind[Nat.add_mul]
theorem AdQ:∀ (s cur:LU),∀ x∈Lib.fieldsGo cur s,x.length<=cur.length+s.length
 | [],cur,x,hx=>by
  grind[Lib.fieldsGo]
 | b::l,cur,x,hx=>by
  simp only[Lib.fieldsGo]at hx
  split at hx
  .split at hx
   .have:=AdQ l [] x hx
    grind
   .rcases List.mem_cons.1 hx with rfl|hx
    .simp
    .have:=AdQ l [] x hx
     grind
  .have:=AdQ l _ x hx
   grind
theorem BeZ:∀ (l:LU)(ws:Bool),Lib.cntF ws l<=l.length
 | [],_=>by simp[Lib.cntF]
 | b::l,ws=>by
  have:=BeZ l (Lib.isSp b);simp only[Lib.cntF,lam]
  split <;> omega
theorem AxY(s:LU):(Lib.fields s).length<=s.length/\∀ x∈Lib.fields s,x.length<=s.length:=by
 refine⟨by grind[Lib.fields_length,BeZ],fun x hx=>?_⟩;have:=AdQ s [] x hx
 grind
theorem ArT{S:Std}(hS:LibR S)(s:LU)(hs:s.length<1000000)(ha:AeD s):PcH prog S 122 [.str s] (· = .fz 1 (strs (Lib.fields s))):=by
 refine ⟨hB122,fun h w vs' hg hm hv=>?_⟩;have:=AoL s h vs' hv;subst this;obtain ⟨t,z,hcell⟩:=hS.spc;have htab:Lib.TabIs prog w "strings.asciiSpace" .u8 Lib.asciiSpaceTab:=by
  have h1:prog.globalNamed "strings.asciiSpace" = some 0:=by kernel_rfl
  have h2:=hg _ _ hcell;unfold Lib.TabIs World.var?;rw[h1];simp only[Option.bind_some,h2]
 refine(Any.strings_Fields Tryz.lays157 (by kernel_rfl) (by kernel_rfl) ⟨s.toArray⟩ w (show s.length<_ by omega) (AjQ ha) htab).mono ?_;rintro e w' ⟨rfl,rfl⟩;have hdl:(⟨s.toArray⟩:ByteArray).data.toList=s:=rfl;rw[hdl];generalize Lib.fields s=sl;have hval:(sl.map fun l=>Value.string ⟨l.toArray⟩)=sl.map sval:=rfl;rw[hval];have h1:∀ v∈sl.map sval,v.oneCell'=true:=by intro v hv; obtain⟨x,_,rfl⟩:=List.mem_map.1 hv; rfl
 have hmine:Mine h (fun _=>none) [] w:=⟨hm,fun id blk e=>by simp at e,fun _ _=>rfl,fun i j g t t' e=>by simp at e,fun i g t e=>by simp at e⟩;obtain⟨m2,l2⟩:=hmine.freezeNew (sl.map sval) 9 h1;refine⟨_,_,Mem.add h w.heap.size (sl.map sval),rfl,rfl,m2.mem,l2.hle,fun b o e n=>?_,.alloc w _,?_⟩
 .rcases l2.hnew b o e n with⟨j,t,hj⟩|hs
  .cases hj
  .exact hs
 .have:=RV.fz (h:=Mem.add h w.heap.size (sl.map sval)) (Lf:=Lf0) (fl:=true) w.heap.size 0 sl.length 1 (strs sl) (sl.map sval) ?_ (by simp[cellsOf]) ?_ (by simp)
  .simpa using this
  .rw [AoA]
   generalize Mem.add h w.heap.size (sl.map sval)=hh;generalize sl=z
   induction z with
   | nil=>exact .nil
   | cons x z ih=>exact .cons (.str x) ih
  .intro k v hv
   simp only[Mem.add,laq,if_true];exact hv
theorem A6L{h:Mem}:∀ {l:List LU}{vs:List Value}{Lf:Value->AV->Prop},RL h Lf true vs (strs l)->vs=l.map sval
 | [],_,_,r=>by cases r; rfl
 | x::l,_,_,r=>by
  cases r with
  | cons r1 r2 =>
   rw[A6L r2]
   cases r1 with
   | str=>rfl
theorem BnS(ls:List LU)(sep:LU)(h1:ls.length<=1000000)(h2:(Lib.join ls sep).length<=140737488355328):Pc prog 121 [.fz 1 (strs ls),.str sep] (· = .str (Lib.join ls sep)):=by
 refine⟨hB121,fun h w vs' hm hv=>?_⟩
 cases hv with
 | cons r1 r=>cases r with
  | cons r2 r =>
   cases r
   rw[h_str r2];have hfin:∀ (u:Value),Calls prog 121 #[u,.string ⟨sep.toArray⟩] w (fun e w'=>e=.returned (.string ⟨(Lib.join ls sep).toArray⟩)/\Below w.heap.size w w')->Calls prog 121 [u,.string ⟨sep.toArray⟩].toArray w fun en w'=>∃ v r h',en=.returned v/\r=.str (Lib.join ls sep)/\(∀ b o v,h' b o=some v->w'.cell? ⟨b,o,none⟩=some v/\v.oneCell'=true)/\(∀ b o v,h b o=some v->h' b o=some v)/\(∀ b o,h b o=none->h' b o≠none->w.heap.size<=b)/\Same w w'/\RV h' Lf0 true v r:=fun u hc=>by
    refine hc.mono ?_;rintro e w' ⟨rfl,hs⟩;have hs:Same w w':=⟨hs.os,hs.tape,⟨hs.output,trivial⟩,hs.size,hs.block⟩;exact⟨_,_,h,rfl,rfl,fun b o v e=>⟨hs.cell (hm b o v e).1,(hm b o v e).2⟩,fun _ _ _ x=>x,fun b o e n=>(n e).elim,hs,.str _⟩
   rcases AgQ (ρ:=fun _=>none) (sto:=[]) (r1.thaw (fun _ _ _ x=>x) (fl:=false))with⟨hl,hu⟩|⟨b,o,c,vs,hu,q1,q2,q3,q4⟩
   .have hl:ls=[]:=by simpa using hl
    subst hl hu;exact hfin _ ((Any.strings_Join_none Tryz.lays156 Tryz.Builder_Extra_156 none 0 ⟨sep.toArray⟩ w).mono fun e w' ⟨he,hw⟩=>⟨he,hw▸Below.refl _ _⟩)
   .subst hu
    rw[AoA]at q1;have hvs:=A6L q1;rw[laa]at q4 |-
    cases hls:ls with
    | nil =>
     rw[<- hls];have hz:ls.length=0:=by rw[hls]; rfl
     rw[hz];refine hfin _ ?_;rw[hls];exact(Any.strings_Join_none Tryz.lays156 Tryz.Builder_Extra_156 (some ⟨b,o,none⟩) c ⟨sep.toArray⟩ w).mono fun e w' ⟨he,hw⟩=>⟨he,hw▸Below.refl _ _⟩
    | cons x r =>
     rw[<- hls];have hcell:∀ (j:Nat) (y:LU),ls[j]? = some y->w.cell? ⟨b,o+j,none⟩=some (sval y):=fun j y hy=>(hm _ _ _ (q3 j (sval y) (by rw[hvs,lby,hy]; rfl))).1
     have hb:b<w.heap.size:=World.block_lt_of_cell? w _ (hcell 0 x (by rw[hls]; rfl));have hdl:(ls.map fun s=>(⟨s.toArray⟩:ByteArray)).map (·.data.toList)=ls:=by
      rw[lbi];exact List.map_id ls
     refine hfin _ ?_;have hj:=Any.strings_Join Tryz.lays156 Tryz.Builder_Extra_156 b o c (ls.map fun s=>⟨s.toArray⟩) ⟨sep.toArray⟩ w (fun j y hy=>by
      rw[lby]at hy
      cases hq:ls[j]? with
      | none=>rw[hq]at hy; cases hy
      | some z =>
       rw[hq]at hy
       cases hy
       exact hcell j z hq) hb (by rw[laa]; omega) (by rw[laa]; exact q4) (by rw[hdl]; exact h2)
     rw[hdl,laa]at hj;exact hj
def okR(c:UInt8):Bool:=!decide ((c.toNat:Int)<32)&&!decide ((c.toNat:Int)>126)
def plainR(s:LU):Bool:=s.all okR&&(Lib.join (Lib.fields s) [32]==s)
theorem AfL{S:Std}(hS:LibR S)(s:LU)(hs:s.length<1000000):PcH prog S 63 [.str s] (· = .bool (plainR s)):=by
 refine zqIB func63 rfl fun h ρ w hg=>?_
 simp only[go_sem];refine AaE (ι:=Nat) (fun i=>s.length-i) (fun i=>[(3,.int .i64 i),(0,.str s)]) (fun _=>[]) (fun i=>i<=s.length/\(s.take i).all okR=true) 0 ⟨by omega,by simp⟩ ?_ ?_
 .refine Lr ?_
  simp only[go_sem]
 .rintro i ⟨g1,g2⟩ J hJ
  by_cases gi:i<s.length
  .have di:decide ((i:Int)<(s.length:Int))=true:=by simp; omega
   have hx:s.getD i 0=s[i]:=by simp[List.getD,gi]
   have bad:okR s[i]=false->plainR s=false:=fun h=>by simp only[plainR,AcH gi h,Bool.false_and]
   have again:okR s[i]=true->(s.take (i+1)).all okR=true:=fun h=>AaR gi g2 h
   unfold okR at bad again;apply zgB
   cases d1:decide ((s[i].toNat:Int)<32)with
   | true =>
    simp only[go_sem,di,hx,d1]
    repeat refine aqa ?_
    exact aret [2] rfl ⟨by rw[bad (by rw[d1]; rfl)]; rfl,rfl⟩
   | false =>
    cases d2:decide ((s[i].toNat:Int)>126)with
    | true =>
     simp only[go_sem,di,hx,d1,d2]
     repeat refine aqa ?_
     exact aret [2] rfl ⟨by rw[bad (by rw[d1,d2]; rfl)]; rfl,rfl⟩
    | false =>
     simp only[go_sem,di,hx,d1,d2]
     repeat refine aqa ?_
     rw[ic i];refine ainv (hJ (i+1) ⟨by omega,again (by rw[d1,d2]; rfl)⟩ (by omega)) (Lr ?_);simp only[go_sem]
  .have di:decide ((i:Int)<(s.length:Int))=false:=by simp; omega
   have hi:i=s.length:=by omega
   rw[hi,laz]at g2;have hasc:AeD s:=fun b hb=>by
    have:=List.all_eq_true.1 g2 b hb;simp only[okR,lae,lbv,lai]at this;omega
   have hf:=ArT hS s hs hasc;obtain⟨b1,b2⟩:=AxY s;have hjl:=BnR (sep:=[32]) (m:=s.length) b2;have hj:=BnS (Lib.fields s) [32] (by omega) (lcl hjl (lcl (Nat.mul_le_mul (n₁:=(Lib.fields s).length) (n₂:=1000000) (m₁:=s.length+[32].length) (m₂:=1000001) (by omega) (by simp only[lam,lap]; omega)) (by decide)));apply zgB;simp only[go_sem,di];refine zqB hg (hf) ?_;simp only[go_sem];refine zpB (hj) ?_;simp only[go_sem];exact aret [2] rfl ⟨by simp only[resV,Av.get,Av.put,plainR,g2,lbt,lbl,lav],rfl⟩
def AlF(s p:LU):Bool:=Lib.trimS s p==[]
theorem AgD(s p:LU)(hs:s.length<1000000)(hp:p.length<1000)(h2:AeD p):Pc prog 119 [.str s,.str p] (· = .bool (AlF s p)):=by
 have ht:=A2I s p (by omega) (by omega) h2;refine zpIB func119 rfl fun h ρ w=>?_
 simp only[go_sem];refine zpB (ht) ?_;simp only[go_sem];exact zt [4]
def longR(s:LU)(a b:Int):Bool:=decide ((s.length:Int)>=a)&&decide ((s.length:Int)<=b)
theorem AjV(s:LU)(a b:Int):Pc prog 62 [.str s,.int .i64 a,.int .i64 b] (· = .bool (longR s a b)):=by
 refine zpIB func62 rfl fun h ρ w=>?_
 cases d1:decide ((s.length:Int)>=a)with
 | true =>
  simp only[go_sem,d1];exact aret [6] rfl ⟨by simp[resV,Av.get,Av.put,longR,d1],rfl⟩
 | false =>
  simp only[go_sem,d1];exact aret [6] rfl ⟨by simp[resV,Av.get,Av.put,longR,d1],rfl⟩
def setSet:LU:=[65,66,67,68,69,70,71,72,73,74,75,76,77,78,79,80,81,82,83,84,85,86,87,88,89,90,48,49,50,51,52,53,54,55,56,57,32,39,46,45,47]
def nameSet:LU:=[65,66,67,68,69,70,71,72,73,74,75,76,77,78,79,80,81,82,83,84,85,86,87,88,89,90,48,49,50,51,52,53,54,55,56,57,32,39,46,45]
def AiY:LU:=[65,66,67,68,69,70,71,72,73,74,75,76,77,78,79,80,81,82,83,84,85,86,87,88,89,90,32,46]
def nameR(s:LU):Bool:=longR s 1 30&&(plainR s&&(AlF s nameSet&&AlF (s.take 1) CAPS))
theorem BfA{S:Std}(hS:LibR S)(s:LU)(hs:s.length<1000000):PcH prog S 182 [.str s] (· = .bool (nameR s)):=by
 have h1:=AjV s 1 30;have h2:=AfL hS s hs;have h3:=AgD s nameSet hs (by decide) (AbI (by decide));have h4:=AgD (s.take 1) CAPS (by simp; omega) (by decide) (AbI (by decide));simp only[nameSet,CAPS]at h3 h4;refine zqIB func182 rfl fun h ρ w hg=>?_
 simp only[go_sem];refine zpB (h1) ?_
 cases e1:longR s 1 30 with
 | false =>
  simp only[go_sem];exact aret [2] rfl ⟨by simp[resV,Av.get,Av.put,nameR,e1],rfl⟩
 | true =>
  have e0:decide ((1:Int)<=(s.length:Int))=true:=by simp[longR]at e1 |-; omega
  simp only[go_sem];refine zqB hg (h2) ?_
  cases e2:plainR s with
  | false =>
   simp only[go_sem];exact aret [2] rfl ⟨by simp[resV,Av.get,Av.put,nameR,e1,e2],rfl⟩
  | true =>
   simp only[go_sem];refine zpB (h3) ?_
   cases e3:AlF s nameSet with
   | false =>
    simp only[nameSet]at e3;rw[e3];simp only[go_sem];exact aret [2] rfl ⟨by simp[resV,Av.get,Av.put,nameR,e1,e2,nameSet,e3],rfl⟩
   | true =>
    have e3':=e3;simp only[nameSet]at e3;rw[e3];simp only[go_sem,e0];refine And.intro (by simp[longR]at e1; omega) ?_;refine zpB (h4) ?_;simp only[go_sem];exact aret [2] rfl ⟨by simp[resV,Av.get,Av.put,nameR,e1,e2,e3',CAPS],rfl⟩
def setR(s:LU):Bool:=longR s 1 60&&(plainR s&&(AlF s setSet&&(AlF (s.take 1) CAPS&&(!Lib.contains s [32,45,32]&&!Lib.hasSuffix s [32,45]))))
theorem A6M{S:Std}(hS:LibR S)(s:LU)(hs:s.length<1000000):PcH prog S 181 [.str s] (· = .bool (setR s)):=by
 have h1:=AjV s 1 60;have h2:=AfL hS s hs;have h3:=AgD s setSet hs (by decide) (AbI (by decide));have h4:=AgD (s.take 1) CAPS (by simp; omega) (by decide) (AbI (by decide));have h5:=AgZ hS.ok s [32,45,32] (by omega);have h6:=AbR s [32,45] (by omega);simp only[setSet,CAPS]at h3 h4;refine zqIB func181 rfl fun h ρ w hg=>?_
 simp only[go_sem];refine zpB (h1) ?_
 cases e1:longR s 1 60 with
 | false =>
  simp only[go_sem];exact aret [2] rfl ⟨by simp[resV,Av.get,Av.put,setR,e1],rfl⟩
 | true =>
  have e0:decide ((1:Int)<=(s.length:Int))=true:=by simp[longR]at e1 |-; omega
  simp only[go_sem];refine zqB hg (h2) ?_
  cases e2:plainR s with
  | false =>
   simp only[go_sem];exact aret [2] rfl ⟨by simp[resV,Av.get,Av.put,setR,e1,e2],rfl⟩
  | true =>
   simp only[go_sem];refine zpB (h3) ?_
   cases e3:AlF s setSet with
   | false =>
    simp only[setSet]at e3;rw[e3];simp only[go_sem];exact aret [2] rfl ⟨by simp[resV,Av.get,Av.put,setR,e1,e2,setSet,e3],rfl⟩
   | true =>
    have e3':=e3;simp only[setSet]at e3;rw[e3];simp only[go_sem,e0];refine And.intro (by simp[longR]at e1; omega) ?_;refine zpB (h4) ?_
    cases e4:AlF (s.take 1) CAPS with
    | false =>
     have e4':=e4;simp only[CAPS]at e4;rw[e4];simp only[go_sem];exact aret [2] rfl ⟨by simp[resV,Av.get,Av.put,setR,e1,e2,e3',e4'],rfl⟩
    | true =>
     have e4':=e4;simp only[CAPS]at e4;rw[e4];simp only[go_sem];refine zqB hg (h5) ?_
     cases e5:Lib.contains s [32,45,32]with
     | true =>
      simp only[go_sem];exact aret [2] rfl ⟨by simp[resV,Av.get,Av.put,setR,e1,e2,e3',e4',e5],rfl⟩
     | false =>
      simp only[go_sem];refine zpB (h6) ?_;simp only[go_sem];exact aret [2] rfl ⟨by simp[resV,Av.get,Av.put,setR,e1,e2,e3',e4',e5],rfl⟩
def A2R(p:Pa):Int:=if plainR p.text then(if p.kind==2&&!nameR p.text then 5 else if p.kind==5&&!AlF p.text AiY then 3 else 0) else 3
theorem AxZ{S:Std}(hS:LibR S)(p:Pa)(b:Int)(h:paraOk p=true)(hf:followsL p.kind b=true):PcH prog S 125 [paA p,.int .i64 b] (· = .int .i64 (A2R p)):=by
 obtain⟨k,s⟩:=p;simp only[paraOk,lae,lag,bne_iff_ne,ne_eq,lbj,lbv]at h;obtain⟨h1,h2,h3,h4,h5,h6,h7,h8⟩:=h;have e0:(s==[])=false:=by simpa using h3
 have hs:s.length<1000000:=by omega
 have d2:decide ((s.length:Int)>2000)=false:=by simp; omega
 have hasc:AeD s:=A5Y (by simp only[plainL,lae]at h4; exact h4.1);have c2:=AfL hS s hs;have c3:=BfA hS s hs;have c4:=AgD s AiY hs (by decide) (AbI (by decide));simp only[AiY]at c4;unfold paA A2R;simp only at hf |-;have hk:k=1\/k=2\/k=3\/k=4\/k=5:=by omega
 unfold followsL at hf;refine zqIB func125 rfl fun h ρ w hg=>?_
 rcases hk with rfl|rfl|rfl|rfl|rfl
 .simp at hf
  have f2:(b==2)=false:=by simpa using hf.1
  have f3:(b==3)=false:=by simpa using hf.2
  simp only[go_sem,e0,d2];refine zqB hg (c2) ?_
  cases e2:plainR s with
  | false =>
   simp only[go_sem];exact zt [4]
  | true =>
   simp only[go_sem,e0,d2,f2,f3];exact zt [4]
 .simp at hf
  have f2:(b==2)=false:=by simpa using hf.1
  have f3:(b==3)=false:=by simpa using hf.2
  simp only[go_sem,e0,d2];refine zqB hg (c2) ?_
  cases e2:plainR s with
  | false =>
   simp only[go_sem];exact zt [4]
  | true =>
   simp only[go_sem,e0,d2,f2,f3];refine zqB hg (c3) ?_
   cases e3:nameR s with
   | false =>
    simp only[go_sem];exact zt [4]
   | true =>
    simp only[go_sem,e0,d2,f2,f3];exact zt [4]
 .have h7:=h7.resolve_left (by simp)
  have d3:decide ((s.length:Int)>200)=false:=by simp; omega
  simp at hf
  have hf':b=2\/b=4:=hf;simp only[go_sem,e0,d2,d3];refine zqB hg (c2) ?_
  cases e2:plainR s with
  | false =>
   simp only[go_sem];exact zt [4]
  | true =>
   simp only[go_sem,e0,d2,d3];refine zpB (AiN s [40,41] (by omega) (by decide) hasc (AbI rfl)) ?_;rw[h7.2]
   rcases hf' with rfl|rfl
   .simp only [go_sem]
    exact zt [4]
   .simp only [go_sem]
    exact zt [4]
 .simp at hf
  have hf':b=2\/b=3\/b=4:=by omega
  simp only[go_sem,e0,d2];refine zqB hg (c2) ?_
  cases e2:plainR s with
  | false =>
   simp only[go_sem];exact zt [4]
  | true =>
   rcases hf' with rfl|rfl|rfl <;>
   .simp only [go_sem,e0,d2]
    exact zt [4]
 .simp at hf
  have f2:(b==2)=false:=by simpa using hf.1
  have f3:(b==3)=false:=by simpa using hf.2
  have hl:=h8.resolve_left (by simp);have d4:decide ((s.length:Int)>40)=false:=by simp[isTurnL]at hl |-; omega
  simp only[go_sem,e0,d2];refine zqB hg (c2) ?_
  cases e2:plainR s with
  | false =>
   simp only[go_sem];exact zt [4]
  | true =>
   simp only[go_sem,e0,d2,f2,f3,d4];refine zpB (c4) ?_
   cases e3:AlF s AiY with
   | false =>
    simp only[AiY]at e3;rw[e3];simp only[go_sem];exact zt [4]
   | true =>
    simp only[AiY]at e3;rw[e3];simp only[go_sem,e0,d2,f2,f3,d4];exact zt [4]
end Go.Proofs.YtgenkcmfeeakoaaGreatDoor
namespace Go.Av
open RowKit
variable [Tr]
def isApp:Op->Bool
 | .call c=>match c.callee with
  | .builtin .append=>true
  | _=>false
 | _=>false
def appOk(id:Nat)(e:Env):Op->Bool
 | .call c=>match c.args.toList with
  | x::_=>match ev e x with
   | .sl i _ _ _=>i==id
   | _=>true
  | []=>true
 | _=>true
def cka(id:Nat)(i:Nat)(e:Env)(s:LB)(o:Oper):Prop :=
 (bif isApp o.op then appOk id e o.op=true else True)/\(bif reader o.op&&!blind o.op then opOk s.length id e o.op=true else True)
theorem xapp_sto{P:Program}{sto s3:LB}{dst src w:AV}{tx td:Option TypeDesc}{p:Prop}(h:xapp P sto dst src tx td=.sto p w s3) :
  (∃ b,s3=sto++[b])\/∃ i o l c b,dst=.sl i o l c/\s3=sto.set i b:=by
 have hB:∀ {id off len cap sz bytes z L q b},BcO sto id off len cap sz bytes z L q b=.sto p w s3->∃ b',s3=sto.set id b':=by
  intro id off len cap sz bytes z L q b h;unfold BcO at h
  grind
 unfold xapp at h
 split at h
 .cases h1:ArE tx <;> rw[h1]at h <;> simp at h
  .cases h2:isI tx <;> rw[h2]at h <;> simp only[lav,lbp]at h
   .cases h
   .unfold BlU at h
    grind
  .unfold BlT at h
   split at h
   .unfold BlS at h
    grind
   grind
 grind
theorem Agr.refl{n id:Nat}{s:LB}:Agr n id s s:=fun _ _ _=>rfl
theorem A2S{c:Cx}{ops:Array Oper}{s s1:LB}{o:Oper}{cv v:AV}{e:Env}{id:Nat}(ha:isApp o.op=true)(hk:appOk id e o.op=true)(h:Does c ops s o cv e v s1):Agr s.length id s s1/\s.length<=s1.length:=by
 have hd:DoesOp c s o cv e v s1->Agr s.length id s s1/\s.length<=s1.length:=by
  intro h;unfold DoesOp at h
  split at h <;> rename_i hq
  .grind[Agr.refl]
  .grind[Agr.refl]
  .simp only [isApp]at ha
   split at ha <;> try(cases ha; done)
   rename_i hcl;simp only[xop,hcl]at hq;unfold A8Y at hq
   grind[appOk,xapp_sto,Agr.push,Agr.set]
  all_goals grind[Agr.refl]
 grind[Does,Agr.refl]
theorem AoO{id:Nat}{e e':Env}{op:Op}(h:∀ x∈op.operands,ev e x=ev e' x):appOk id e op=appOk id e' op:=by
 unfold appOk
 cases op <;> try rfl
 rename_i c;simp only
 cases hc:c.args.toList with
 | nil=>rfl
 | cons x r =>
  have hm:x∈(Op.call c).operands:=by
   have:x∈c.args:=by
    rw[<- Array.mem_toList_iff,hc]; simp
   grind[Op.operands,Go.Call.operands]
  grind
theorem AoP{id i:Nat}{e e':Env}{s s':LB}{o:Oper}(h:∀ x∈o.op.operands,ev e x=ev e' x)(hs:s.length<=s'.length)(hp:cka id i e s o):cka id i e' s' o:=by
 refine⟨?_,?_⟩
 .rw [<- AoO h]; exact hp.1
 .have h2:=hp.2
  cases hb:(reader o.op&&!blind o.op)with
  | false=>trivial
  | true =>
   rw[hb]at h2;simp only[lav]at h2 |-;rw[<- opOk_agree h];exact AxL hs h2
def ChA(c:Cx)(ops:Array Oper)(id:Nat)(K:Env->LB->Prop):List Nat->Env->LB->Prop
 | [],e,s=>K e s
 | i::r,e,s=>match ops[i]? with
  | some o=>cka id i e s o/\∃ cv v s',Does c ops s o cv e v s'/\ChA c ops id K r (put e o.dst v) s'
  | none=>False
def okAp(ops:List Oper)(j i:Nat):Bool:=match ops[j]?,ops[i]? with
 | some oj,some oi=>oj.apart ops.toArray oi&&(together oj oi||(reader oj.op&&isApp oi.op))
 | _,_=>false
section
variable {cx:Cx}{ops:Array Oper}{K:Env->LB->Prop}{id:Nat}
theorem ChA.congr(hK:∀ e e' s,Eqv e e'->K e s->K e' s):∀ {l:List Nat}{e e':Env}{s:LB},Eqv e e'->ChA cx ops id K l e s->ChA cx ops id K l e' s
 | [],e,e',s,h,c=>hK e e' s h c
 | i::r,e,e',s,h,c=>by
  unfold ChA at c |-
  split at c
  .rename_i o ho
   obtain⟨h0,cv,v,s',h1,h2⟩:=c;exact⟨AoP (fun x _=>AeQ fun t _=>h t) (lad _) h0,cv,v,s',h1.agree fun t _=>h t,ChA.congr hK (h.put _ _) h2⟩
  .exact c.elim
theorem ChA.swap{opl:List Oper}(hops:ops=opl.toArray)(hK:∀ e e' s,Eqv e e'->K e s->K e' s){i j:Nat}{r:List Nat}(hok:okAp opl j i=true){e:Env}{s:LB}(c:ChA cx ops id K (j::i::r) e s) :
  ChA cx ops id K (i::j::r) e s:=by
 unfold okAp at hok
 split at hok
 rotate_left
 .cases hok
 rename_i oj oi hj' hi';have hj:ops[j]? = some oj:=by rw[hops]; simpa using hj'
 have hi:ops[i]? = some oi:=by rw[hops]; simpa using hi'
 simp only[lae,lbj]at hok;obtain⟨ha,hok⟩:=hok;rw[<- hops]at ha;obtain⟨a1,a2,a3⟩:=Oper.apart_spec ha;simp only[ChA,hj,hi]at c |-;obtain⟨pj,cv,v,s1,h1,pi,cu,u,s2,h2,h3⟩:=c;have gi:∀ (e:Env) (v:AV),AiV ops oi (put e oj.dst v) e:=fun e v t ht=>by
  rw[get_put,if_neg]; intro h; exact a1 t h ht
 have gj:∀ (e:Env) (v:AV),AiV ops oj e (put e oi.dst v):=fun e v t ht=>by
  rw[get_put,if_neg]; intro h; exact a3 t h ht
 have h2':Does cx ops s1 oi cu e u s2:=h2.agree (gi e v);have h1':∀ {z z'},Does cx ops z oj cv e v z'->Does cx ops z oj cv (put e oi.dst u) v z':=fun hd=>hd.agree (gj e u)
 have h3':=ChA.congr hK (AjP a2) h3;have pi':∀ s',s1.length<=s'.length->cka id i e s' oi:=fun s' hs=>AoP (AaG (gi e v)) hs pi
 have pj':∀ s',s.length<=s'.length->cka id j (put e oi.dst u) s' oj:=fun s' hs=>AoP (AaG (gj e u)) hs pj
 have bj:blind oj.op=true->∀ s',cka id j (put e oi.dst u) s' oj:=fun hb s'=>⟨(pj' s (lad _)).1,by simp[hb]⟩
 have bi:blind oi.op=true->∀ s',cka id i e s' oi:=fun hb s'=>⟨(pi' s1 (lad _)).1,by simp[hb]⟩
 rcases hok with hok|hok
 .simp only [together,lbj,lae]at hok
  rcases hok with(⟨c1,c2⟩|c1)|c1
  .have e1:=h1.calm c1
   subst e1;have e2:=h2.calm c2;subst e2;exact⟨pi' _ (lad _),cu,u,_,h2',pj' _ (lad _),cv,v,_,h1' h1,h3'⟩
  .have e1:=h1.calm (blind_calm c1)
   subst e1;exact⟨pi' _ (lad _),cu,u,_,h2',bj c1 _,cv,v,_,h1' (h1.blind c1),h3'⟩
  .have e2:=h2.calm (blind_calm c1)
   subst e2;exact⟨bi c1 _,cu,u,_,h2'.blind c1,pj' _ (lad _),cv,v,_,h1' h1,h3'⟩
 .obtain ⟨hr,hap⟩:=hok
  have e1:=h1.calm (reader_calm hr);subst e1;have pis:=pi' _ (lad _);have hk:appOk id e oi.op=true:=by have:=pis.1; rw[hap]at this; exact this
  obtain⟨hag,hle⟩:=A2S hap hk h2';have ok0:blind oj.op=false->opOk s1.length id e oj.op=true:=fun hb=>by have:=pj.2; rw[hr,hb]at this; exact this
  exact⟨pis,cu,u,_,h2',pj' _ hle,cv,v,_,h1' (AaJ hr ok0 hag h1).2,h3'⟩
theorem ChA.front{opl:List Oper}(hops:ops=opl.toArray)(hK:∀ e e' s,Eqv e e'->K e s->K e' s){i:Nat}{r:List Nat}:∀ {l:List Nat}{e:Env}{s:LB},(∀ j∈l,okAp opl j i=true) ->
  ChA cx ops id K (l++i::r) e s->ChA cx ops id K (i::(l++r)) e s
 | [],_,_,_,c=>c
 | j::l,e,s,h,c=>by
  refine ChA.swap hops hK (h j (by simp)) ?_;simp only[lbb,ChA]at c |-
  split at c
  .rename_i o ho
   obtain⟨h0,cv,v,s',h1,h2⟩:=c;exact⟨h0,cv,v,s',h1,ChA.front hops hK (fun k hk=>h k (by simp[hk])) h2⟩
  .exact c.elim
end
section
variable {c:Cx}{k:List It}{e:Env}{s:LB}
theorem ArU{all:List Oper}{id:Nat}:∀ {r:List Oper}{m n:Nat}{cs:LA}{e:Env}{s:LB},(∀ (j:Nat),r[j]? = all[m+j]?)->all.length=m+r.length->dxg c all (cka id) k n r cs e s->ChA c all.toArray id (fun e s=>AWp c k e s) (List.range' m r.length) e s
 | [],m,n,cs,e,s,_,_,h=>by
  rw[dxg]at h;exact h
 | o::r,m,n,cs,e,s,hr,hlen,h=>by
  obtain⟨h0,cv,v,n',cs',s',h1,h2⟩:=A5X h;have hat:all.toArray[m]? = some o:=by have:=hr 0; simpa using this.symm
  have hix:rix all (o::r)=m:=by unfold rix; omega
  rw[hix]at h0;simp only[lam,List.range'_succ,ChA,hat];exact⟨h0,cv,v,s',h1,ArU (fun j=>by have:=hr (j+1); simpa[Nat.add_assoc,Nat.add_comm 1 j]using this) (by simp at hlen; omega) h2⟩
theorem BfB(bid:Nat)(cs:LA){id:Nat}{ops:List Oper}(hm:c.P.follows .mixedOrders=true)(hok:AiW (okAp ops) ops=true){N:Nat}(hN:c.fn.ntmps=N)(hdst:ops.all (fun o=>dOk N o.dst)=true)(n:Nat)
  (h:dxg c ops (cka bid) k n ops cs e s):AWp c (.code (.region id ops.toArray true)::k) e s:=by
 intro a w hsim;have hch:=ArU (m:=0) (by intro j; simp) (by simp) h;rw[<- List.range_eq_range']at hch;refine wp_region_any hm ?_;have hsim':Sim c e s a { w with drawn:=w.drawn+1 }:=by
  obtain⟨hh,ρ,hmm,hl,he,hdf,hsz,hX⟩:=hsim;have sm:Same w { w with drawn:=w.drawn+1 }:=Same.drew w;exact⟨hh,ρ,hmm.same sm,hl.trans (Later.same sm),he,hdf,hsz,c.hx.later hmm (Later.same sm) hX⟩
 have hd:∀ o∈ops,dOk c.fn.ntmps o.dst=true:=fun o ho=>by rw[hN]; exact(List.all_eq_true.1 hdst) o ho
 refine AfI (okp:=okAp ops) (ChA c ops.toArray bid (fun e s=>AWp c k e s)) hok (fun e s x=>x) (fun l i r e s hj x=>ChA.front rfl AWp.K hj x)
  (fun i o r e s a w Kc ho x hs hK=>?_)
  ops.length (Array.replicate ops.length false) (List.range ops.length) e s a _ (by simp) ?_ (by simp) ?_ hch hsim'
 .have ho':ops.toArray[i]? = some o:=by simpa using ho
  simp only[ChA,ho']at x;obtain⟨_,cv,v,s',h1,h2⟩:=x;exact AkZ hs (hd o (lar ho)) h1 fun a w hs'=>hK _ _ a w h2 hs'
 .symm
  rw[List.filter_eq_self];intro i hi
  simp at hi
  simp[hi]
 .intro i hi j hj
  exfalso
  by_cases h1:i<ops.length
  .simp [h1]at hi
  .unfold waits at hj
   have:ops[i]? = none:=by simp; omega
   simp[this]at hj
end
end Go.Av
namespace Go.Proofs.YtgenkcmfeeakoaaGreatDoor
open Av RowKit
structure Cv where
 para:Int
 inn:Int
 out:Int
 on:Bool
deriving DecidableEq
structure Tk where
 scene:LU
 setup:LU
 number:Int
 roll:LU
 sound:LU
 inn:Int
 out:Int
 good:Bool
 covers:List Cv
structure Pp' where
 take:Nat
 cv:Cv
deriving DecidableEq
structure Scr where
 joins:Int
 on:Int
deriving DecidableEq
def bet(a b:Scr):Bool:=decide (a.joins<b.joins)||(a.joins==b.joins&&decide (a.on>b.on))
def fol(a b:Pp'):Bool:=a.take==b.take&&a.cv.out==b.cv.inn
structure Stp where
 parts:List Pp'
 scr:Pp'->Scr
 best:Scr
def restL'(p:Pp')(scr:Pp'->Scr):Scr->List Pp'->Scr
 | r,[]=>r
 | r,q::l=>restL' p scr (if fol p q&&bet (scr q) r then scr q else r) l
def BfC(nx:Stp)(p:Pp'):Scr:=restL' p nx.scr ⟨nx.best.joins+1,nx.best.on⟩ nx.parts
theorem BvY(a:Scr):bet a a=false:=by simp[bet]
theorem BfD{a b c:Scr}(h:bet a b=true)(h2:bet b c=true):bet a c=true:=by
 simp only[bet,lbj,lae,lag,lbr]at *;omega
theorem AoQ(p:Pp')(scr:Pp'->Scr):∀ (l:List Pp')(b:Scr),(restL' p scr b l=b\/∃ q∈l,fol p q=true/\restL' p scr b l=scr q)/\bet b (restL' p scr b l)=false/\∀ q∈l,fol p q=true->bet (scr q) (restL' p scr b l)=false
 | [],b=>⟨.inl rfl,BvY b,by simp⟩
 | q::l,b=>by
  simp only[restL']
  cases h:(fol p q&&bet (scr q) b)with
  | true =>
   simp only[lae]at h;obtain⟨h1,h2,h3⟩:=AoQ p scr l (scr q);simp only[if_true];refine⟨.inr ?_,?_,?_⟩
   .rcases h1 with h1|⟨x,hx,hf,h1⟩
    .exact ⟨q,by simp,h.1,h1⟩
    .exact ⟨x,by simp[hx],hf,h1⟩
   .cases hx:bet b (restL' p scr (scr q) l)with
    | false=>rfl
    | true=>rw[BfD h.2 hx]at h2; cases h2
   .intro t ht hf
    rcases List.mem_cons.1 ht with rfl|ht
    .exact h2
    .exact h3 t ht hf
  | false =>
   obtain⟨h1,h2,h3⟩:=AoQ p scr l b;simp only[lan,if_false];refine⟨?_,h2,?_⟩
   .rcases h1 with h1|⟨x,hx,hf,h1⟩
    .exact .inl h1
    .exact .inr ⟨x,by simp[hx],hf,h1⟩
   .intro t ht hf
    rcases List.mem_cons.1 ht with rfl|ht
    .rw [hf,lbt]at h
     rcases h1 with h1|⟨x,hx,hfx,h1⟩
     .rw [h1]; exact h
     .cases hb:bet (scr t) (restL' p scr b l)with
      | false=>rfl
      | true =>
       exfalso
       generalize restL' p scr b l=r at *;simp only[bet,lch,Bool.and_eq_false_iff,lai,lbe,lbj,lae,lag,lbr]at *;omega
    .exact h3 t ht hf
def cost(scr:Pp'->Scr)(p q:Pp'):Scr:=if fol p q then scr q else⟨(scr q).joins+1,(scr q).on⟩
theorem BnT{nx:Stp}(hm:∃ q∈nx.parts,nx.scr q=nx.best)(hb:∀ q∈nx.parts,bet (nx.scr q) nx.best=false)(p:Pp') :
  (∃ q∈nx.parts,cost nx.scr p q=BfC nx p)/\∀ q∈nx.parts,(BfC nx p).joins<=(cost nx.scr p q).joins:=by
 obtain⟨h1,h2,h3⟩:=AoQ p nx.scr nx.parts ⟨nx.best.joins+1,nx.best.on⟩;refine⟨?_,?_⟩
 .rcases h1 with h1|⟨q,hq,hf,h1⟩
  .obtain ⟨q,hq,hs⟩:=hm
   refine⟨q,hq,?_⟩
   cases hf:fol p q with
   | false=>simp only[cost,hf,lan,if_false,hs]; exact h1.symm
   | true =>
    have:=h3 q hq hf;rw[h1,hs]at this;simp only[bet,lch,lai]at this;omega
  .exact ⟨q,hq,by simp only[cost,hf,if_true]; exact h1.symm⟩
 .intro q hq
  cases hf:fol p q with
  | true =>
   have:=h3 q hq hf;simp only[cost,hf,if_true];simp only[bet,lch,lai]at this;have:=this.1;simp only[BfC];omega
  | false =>
   have h4:=hb q hq;simp only[cost,hf,lan,if_false];simp only[bet,lch,lai]at h2 h4;have h2:=h2.1;have h4:=h4.1;simp only[BfC];omega
def StpOk(s:Stp):Prop:=(∃ q∈s.parts,s.scr q=s.best)/\∀ q∈s.parts,bet (s.scr q) s.best=false
def B0F(last:Option Pp')(p:Pp'):Int:=match last with
 | none=>0
 | some l=>if fol l p then 0 else 1
def fewN:Option Pp'->List (List Pp')->Int
 | _,[]=>0
 | last,ps::r=>ps.foldl (fun b p=>min b (B0F last p+fewN (some p) r)) 1073741824
