/- Rolls and takes as data; searching lists by a function. -/
import Derived.Test.YtgenkcmfeeakoaaGreatDoorX18
set_option maxRecDepth 100000
set_option linter.all false
namespace Go.Proofs.YtgenkcmfeeakoaaGreatDoor
open Av RowKit Proofs.Tryz
structure Rl where
 name:LU
 rate:Int
 start:Int
 long:Int
 drift:Int
structure Wn where
 frm:Int
 to':Int
def rlA(x:Rl):AV:=.agg [.str x.name,.int .i64 x.rate,.int .i64 x.start,.int .i64 x.long,.int .i64 x.drift]
def cvA(x:Cv):AV:=.agg [.int .i64 x.para,.int .i64 x.inn,.int .i64 x.out,.bool x.on]
def tkA(x:Tk):AV:=.agg [.str x.scene,.str x.setup,.int .i64 x.number,.str x.roll,.str x.sound,.int .i64 x.inn,.int .i64 x.out,.bool x.good,.fz 4 (x.covers.map cvA)]
def wnA(x:Wn):AV:=.agg [.int .i64 x.frm,.int .i64 x.to']
theorem A2T(l:List Rl)(i:Nat)(h:i<l.length):List.getD (List.map rlA l) i .any=.agg [.str l[i].name,.int .i64 l[i].rate,.int .i64 l[i].start,.int .i64 l[i].long,.int .i64 l[i].drift]:=by simp[List.getD,h,rlA]
theorem AiZ(l:List Cv)(i:Nat)(h:i<l.length):List.getD (List.map cvA l) i .any=.agg [.int .i64 l[i].para,.int .i64 l[i].inn,.int .i64 l[i].out,.bool l[i].on]:=by simp[List.getD,h,cvA]
theorem AjA(l:List Tk)(i:Nat)(h:i<l.length):List.getD (List.map tkA l) i .any=.agg [.str l[i].scene,.str l[i].setup,.int .i64 l[i].number,.str l[i].roll,.str l[i].sound,.int .i64 l[i].inn,.int .i64 l[i].out,.bool l[i].good,.fz 4 (l[i].covers.map cvA)]:=by simp[List.getD,h,tkA]
theorem BvZ(l:List Wn)(i:Nat)(h:i<l.length):List.getD (List.map wnA l) i .any=.agg [.int .i64 l[i].frm,.int .i64 l[i].to']:=by simp[List.getD,h,wnA]
theorem AgE(l:List Sc)(i:Nat)(h:i<l.length):List.getD (List.map scA l) i .any=.agg [.str l[i].no,.int .i64 l[i].place,.str l[i].set,.int .i64 l[i].time,.fz 2 (l[i].Ld.map paA)]:=by grind[scA]
theorem BwA(l:List Pa)(i:Nat)(h:i<l.length):List.getD (List.map paA l) i .any=.agg [.int .i64 l[i].kind,.str l[i].text]:=by grind[paA]
theorem take_map{α β:Type}(f:α->β)(l:List α):(l.map f).take l.length=l.map f:=by rw[<- laa f,laz]
theorem BnU{caps:LA}(hc:caps.all frozen0=true):caps.all nr1=true:=by
 rw[lbk]at hc |-;intro x hx;have:=hc x hx
 cases x <;> first|exact ArC this|grind[frozen0]
theorem AcW{a:AV}{caps:LA}(ha:nr1 a=true)(hc:caps.all frozen0=true):(a::caps).all nr1=true:=by
 grind[BnU]
def idxH{α:Type}(p:α->Bool)(l:List α):Int:=match l.findIdx? p with
 | some i=>i
 | none=>-1
theorem AeG{α:Type}{p:α->Bool}{l:List α}(h:∀ j,(hj:j<l.length)->p l[j]=false):idxH p l=-1:=by
 have:l.findIdx? p=none:=by
  rw[List.findIdx?_eq_none_iff];intro x hx;obtain⟨j,hj,rfl⟩:=List.getElem_of_mem hx;exact h j hj
 simp[idxH,this]
theorem AcZ{α:Type}{p:α->Bool}{l:List α}{i:Nat}(hi:i<l.length)(hp:p l[i]=true)(h:∀ j,(hj:j<i)->p (l[j]'(by omega))=false):idxH p l=i:=by
 have:l.findIdx? p=some i:=by
  rw[List.findIdx?_eq_some_iff_getElem];exact⟨hi,hp,fun j hj=>by simpa using h j hj⟩
 simp[idxH,this]
theorem AjW{α:Type}{p:α->Bool}{l:List α}:decide (idxH p l>=0)=l.any p:=by
 unfold idxH
 cases hq:l.findIdx? p with
 | none =>
  rw[List.findIdx?_eq_none_iff]at hq;have:l.any p=false:=by rw[List.any_eq_false]; intro x hx; simp[hq x hx]
  simp[this]
 | some i =>
  rw[List.findIdx?_eq_some_iff_getElem]at hq;obtain⟨hi,hp,_⟩:=hq;have:l.any p=true:=List.any_eq_true.2 ⟨_,lac hi,hp⟩
  simp[this]
theorem A6N(f:FuncId)(caps:LA)(hc:caps.all frozen0=true)(p:Sc->Bool)(l:List Sc)(hl:l.length<100000000)(hf:∀ x∈l,Pc prog f (scA x::caps) (· = .bool (p x))) :
  Pc prog 74 [.fz 5 (l.map scA),.fn (.func f) caps] (· = .int .i64 (idxH p l)):=by
 refine zpIB func74 rfl fun h ρ w=>?_
 simp only[go_sem];refine AaE (ι:=Nat) (fun i=>l.length-i) (fun i=>[(8,.int .i64 i),(7,.int .i64 l.length),(1,.fn (.func f) caps),(0,.fz 5 (l.map scA))]) (fun _=>[]) (fun i=>i<=l.length/\∀ j,(hj:j<l.length)->j<i->p l[j]=false) 0 ⟨by simp,fun j _ h=>absurd h (by omega)⟩ ?_ ?_
 .refine Lr ?_
  simp only[go_sem,laa]
 .rintro i ⟨g1,g2⟩ J hJ
  by_cases gi:i<l.length
  .have di:decide ((i:Int)<(l.length:Int))=true:=by simp; omega
   have hfx:=hf _ (lac gi);simp only[scA]at hfx;apply zgB;simp only[go_sem,di,AgE l i gi,laa]
   repeat refine aqb ?_
   cases hp:p l[i]with
   | true =>
    rw[hp]at hfx;refine AaX hfx (AcW rfl hc) rfl rfl (zgB ?_);simp only[go_sem];exact aret [4] rfl ⟨congrArg _ (AcZ gi hp fun j hj=>g2 j (by omega) hj).symm,rfl⟩
   | false =>
    rw[hp]at hfx;refine AaX hfx (AcW rfl hc) rfl rfl (zgB ?_);simp only[go_sem]
    repeat refine aqc ?_
    rw[ic i];refine ainv (hJ (i+1) ⟨by omega,fun j hj h=>?_⟩ (by omega)) (Lr ?_)
    .rcases Nat.lt_or_ge j i with h2|h2
     .exact g2 j hj h2
     .have:j=i:=by omega
      subst this; exact hp
    .simp only [go_sem]
  .have di:decide ((i:Int)<(l.length:Int))=false:=by simp; omega
   apply zgB;simp only[go_sem,di];exact aret [4] rfl ⟨congrArg _ (AeG fun j hj=>g2 j hj (by omega)).symm,rfl⟩
theorem AvC(f:FuncId)(caps:LA)(hc:caps.all frozen0=true)(p:Sc->Bool)(l:List Sc)(hl:l.length<100000000)(hf:∀ x∈l,Pc prog f (scA x::caps) (· = .bool (p x))) :
  Pc prog 33 [.fz 5 (l.map scA),.fn (.func f) caps] (· = .bool (l.any p)):=by
 refine zpIB func33 rfl fun h ρ w=>?_
 simp only[go_sem];refine AaX (A6N f caps hc p l hl hf) (by simp only[lat,lbn,nr1,Av.frozen,hc,lbh]) rfl rfl (zgB ?_);simp only[go_sem];refine aret [4] rfl ⟨?_,rfl⟩;simp only[resV,Av.get,Av.put,lav,lbl];rw[<- AjW]
theorem AjX(f:FuncId)(caps:LA)(hc:caps.all frozen0=true)(p:Rl->Bool)(l:List Rl)(hl:l.length<100000000)(hf:∀ x∈l,Pc prog f (rlA x::caps) (· = .bool (p x))) :
  Pc prog 150 [.fz 5 (l.map rlA),.fn (.func f) caps] (· = .int .i64 (idxH p l)):=by
 refine zpIB func150 rfl fun h ρ w=>?_
 simp only[go_sem];refine AaE (ι:=Nat) (fun i=>l.length-i) (fun i=>[(8,.int .i64 i),(7,.int .i64 l.length),(1,.fn (.func f) caps),(0,.fz 5 (l.map rlA))]) (fun _=>[]) (fun i=>i<=l.length/\∀ j,(hj:j<l.length)->j<i->p l[j]=false) 0 ⟨by simp,fun j _ h=>absurd h (by omega)⟩ ?_ ?_
 .refine Lr ?_
  simp only[go_sem,laa]
 .rintro i ⟨g1,g2⟩ J hJ
  by_cases gi:i<l.length
  .have di:decide ((i:Int)<(l.length:Int))=true:=by simp; omega
   have hfx:=hf _ (lac gi);simp only[rlA]at hfx;apply zgB;simp only[go_sem,di,A2T l i gi,laa]
   repeat refine aqb ?_
   cases hp:p l[i]with
   | true =>
    rw[hp]at hfx;refine AaX hfx (AcW rfl hc) rfl rfl (zgB ?_);simp only[go_sem];exact aret [4] rfl ⟨congrArg _ (AcZ gi hp fun j hj=>g2 j (by omega) hj).symm,rfl⟩
   | false =>
    rw[hp]at hfx;refine AaX hfx (AcW rfl hc) rfl rfl (zgB ?_);simp only[go_sem]
    repeat refine aqc ?_
    rw[ic i];refine ainv (hJ (i+1) ⟨by omega,fun j hj h=>?_⟩ (by omega)) (Lr ?_)
    .rcases Nat.lt_or_ge j i with h2|h2
     .exact g2 j hj h2
     .have:j=i:=by omega
      subst this; exact hp
    .simp only [go_sem]
  .have di:decide ((i:Int)<(l.length:Int))=false:=by simp; omega
   apply zgB;simp only[go_sem,di];exact aret [4] rfl ⟨congrArg _ (AeG fun j hj=>g2 j hj (by omega)).symm,rfl⟩
theorem BnV(f:FuncId)(caps:LA)(hc:caps.all frozen0=true)(p:Rl->Bool)(l:List Rl)(hl:l.length<100000000)(hf:∀ x∈l,Pc prog f (rlA x::caps) (· = .bool (p x))) :
  Pc prog 105 [.fz 5 (l.map rlA),.fn (.func f) caps] (· = .bool (l.any p)):=by
 refine zpIB func105 rfl fun h ρ w=>?_
 simp only[go_sem];refine AaX (AjX f caps hc p l hl hf) (by simp only[lat,lbn,nr1,Av.frozen,hc,lbh]) rfl rfl (zgB ?_);simp only[go_sem];refine aret [4] rfl ⟨?_,rfl⟩;simp only[resV,Av.get,Av.put,lav,lbl];rw[<- AjW]
theorem BnW(f:FuncId)(caps:LA)(hc:caps.all frozen0=true)(p:Cv->Bool)(l:List Cv)(hl:l.length<100000000)(hf:∀ x∈l,Pc prog f (cvA x::caps) (· = .bool (p x))) :
  Pc prog 48 [.fz 4 (l.map cvA),.fn (.func f) caps] (· = .int .i64 (idxH p l)):=by
 refine zpIB func48 rfl fun h ρ w=>?_
 simp only[go_sem];refine AaE (ι:=Nat) (fun i=>l.length-i) (fun i=>[(8,.int .i64 i),(7,.int .i64 l.length),(1,.fn (.func f) caps),(0,.fz 4 (l.map cvA))]) (fun _=>[]) (fun i=>i<=l.length/\∀ j,(hj:j<l.length)->j<i->p l[j]=false) 0 ⟨by simp,fun j _ h=>absurd h (by omega)⟩ ?_ ?_
 .refine Lr ?_
  simp only[go_sem,laa]
 .rintro i ⟨g1,g2⟩ J hJ
  by_cases gi:i<l.length
  .have di:decide ((i:Int)<(l.length:Int))=true:=by simp; omega
   have hfx:=hf _ (lac gi);simp only[cvA]at hfx;apply zgB;simp only[go_sem,di,AiZ l i gi,laa]
   repeat refine aqb ?_
   cases hp:p l[i]with
   | true =>
    rw[hp]at hfx;refine AaX hfx (AcW rfl hc) rfl rfl (zgB ?_);simp only[go_sem];exact aret [4] rfl ⟨congrArg _ (AcZ gi hp fun j hj=>g2 j (by omega) hj).symm,rfl⟩
   | false =>
    rw[hp]at hfx;refine AaX hfx (AcW rfl hc) rfl rfl (zgB ?_);simp only[go_sem]
    repeat refine aqc ?_
    rw[ic i];refine ainv (hJ (i+1) ⟨by omega,fun j hj h=>?_⟩ (by omega)) (Lr ?_)
    .rcases Nat.lt_or_ge j i with h2|h2
     .exact g2 j hj h2
     .have:j=i:=by omega
      subst this; exact hp
    .simp only [go_sem]
  .have di:decide ((i:Int)<(l.length:Int))=false:=by simp; omega
   apply zgB;simp only[go_sem,di];exact aret [4] rfl ⟨congrArg _ (AeG fun j hj=>g2 j hj (by omega)).symm,rfl⟩
theorem BnX(f:FuncId)(caps:LA)(hc:caps.all frozen0=true)(p:Cv->Bool)(l:List Cv)(hl:l.length<100000000)(hf:∀ x∈l,Pc prog f (cvA x::caps) (· = .bool (p x))) :
  Pc prog 13 [.fz 4 (l.map cvA),.fn (.func f) caps] (· = .bool (l.any p)):=by
 refine zpIB func13 rfl fun h ρ w=>?_
 simp only[go_sem];refine AaX (BnW f caps hc p l hl hf) (by simp only[lat,lbn,nr1,Av.frozen,hc,lbh]) rfl rfl (zgB ?_);simp only[go_sem];refine aret [4] rfl ⟨?_,rfl⟩;simp only[resV,Av.get,Av.put,lav,lbl];rw[<- AjW]
theorem BnY(f:FuncId)(caps:LA)(hc:caps.all frozen0=true)(p:Wn->Bool)(l:List Wn)(hl:l.length<100000000)(hf:∀ x∈l,Pc prog f (wnA x::caps) (· = .bool (p x))) :
  Pc prog 152 [.fz 2 (l.map wnA),.fn (.func f) caps] (· = .int .i64 (idxH p l)):=by
 refine zpIB func152 rfl fun h ρ w=>?_
 simp only[go_sem];refine AaE (ι:=Nat) (fun i=>l.length-i) (fun i=>[(8,.int .i64 i),(7,.int .i64 l.length),(1,.fn (.func f) caps),(0,.fz 2 (l.map wnA))]) (fun _=>[]) (fun i=>i<=l.length/\∀ j,(hj:j<l.length)->j<i->p l[j]=false) 0 ⟨by simp,fun j _ h=>absurd h (by omega)⟩ ?_ ?_
 .refine Lr ?_
  simp only[go_sem,laa]
 .rintro i ⟨g1,g2⟩ J hJ
  by_cases gi:i<l.length
  .have di:decide ((i:Int)<(l.length:Int))=true:=by simp; omega
   have hfx:=hf _ (lac gi);simp only[wnA]at hfx;apply zgB;simp only[go_sem,di,BvZ l i gi,laa]
   repeat refine aqb ?_
   cases hp:p l[i]with
   | true =>
    rw[hp]at hfx;refine AaX hfx (AcW rfl hc) rfl rfl (zgB ?_);simp only[go_sem];exact aret [4] rfl ⟨congrArg _ (AcZ gi hp fun j hj=>g2 j (by omega) hj).symm,rfl⟩
   | false =>
    rw[hp]at hfx;refine AaX hfx (AcW rfl hc) rfl rfl (zgB ?_);simp only[go_sem]
    repeat refine aqc ?_
    rw[ic i];refine ainv (hJ (i+1) ⟨by omega,fun j hj h=>?_⟩ (by omega)) (Lr ?_)
    .rcases Nat.lt_or_ge j i with h2|h2
     .exact g2 j hj h2
     .have:j=i:=by omega
      subst this; exact hp
    .simp only [go_sem]
  .have di:decide ((i:Int)<(l.length:Int))=false:=by simp; omega
   apply zgB;simp only[go_sem,di];exact aret [4] rfl ⟨congrArg _ (AeG fun j hj=>g2 j hj (by omega)).symm,rfl⟩
theorem BnZ(f:FuncId)(caps:LA)(hc:caps.all frozen0=true)(p:Wn->Bool)(l:List Wn)(hl:l.length<100000000)(hf:∀ x∈l,Pc prog f (wnA x::caps) (· = .bool (p x))) :
  Pc prog 91 [.fz 2 (l.map wnA),.fn (.func f) caps] (· = .bool (l.any p)):=by
 refine zpIB func91 rfl fun h ρ w=>?_
 simp only[go_sem];refine AaX (BnY f caps hc p l hl hf) (by simp only[lat,lbn,nr1,Av.frozen,hc,lbh]) rfl rfl (zgB ?_);simp only[go_sem];refine aret [4] rfl ⟨?_,rfl⟩;simp only[resV,Av.get,Av.put,lav,lbl];rw[<- AjW]
theorem A6O(f:FuncId)(caps:LA)(hc:caps.all frozen0=true)(p:Tk->Bool)(l:List Tk)(hl:l.length<100000000)(hf:∀ x∈l,Pc prog f (tkA x::caps) (· = .bool (p x))) :
  Pc prog 11 [.fz 9 (l.map tkA),.fn (.func f) caps] (· = .int .i64 (idxH p l)):=by
 refine zpIB func11 rfl fun h ρ w=>?_
 simp only[go_sem];refine AaE (ι:=Nat) (fun i=>l.length-i) (fun i=>[(8,.int .i64 i),(7,.int .i64 l.length),(1,.fn (.func f) caps),(0,.fz 9 (l.map tkA))]) (fun _=>[]) (fun i=>i<=l.length/\∀ j,(hj:j<l.length)->j<i->p l[j]=false) 0 ⟨by simp,fun j _ h=>absurd h (by omega)⟩ ?_ ?_
 .refine Lr ?_
  simp only[go_sem,laa]
 .rintro i ⟨g1,g2⟩ J hJ
  by_cases gi:i<l.length
  .have di:decide ((i:Int)<(l.length:Int))=true:=by simp; omega
   have hfx:=hf _ (lac gi);simp only[tkA]at hfx;apply zgB;simp only[go_sem,di,AjA l i gi,laa]
   repeat refine aqb ?_
   cases hp:p l[i]with
   | true =>
    rw[hp]at hfx;refine AaX hfx (AcW rfl hc) rfl rfl (zgB ?_);simp only[go_sem];exact aret [4] rfl ⟨congrArg _ (AcZ gi hp fun j hj=>g2 j (by omega) hj).symm,rfl⟩
   | false =>
    rw[hp]at hfx;refine AaX hfx (AcW rfl hc) rfl rfl (zgB ?_);simp only[go_sem]
    repeat refine aqc ?_
    rw[ic i];refine ainv (hJ (i+1) ⟨by omega,fun j hj h=>?_⟩ (by omega)) (Lr ?_)
    .rcases Nat.lt_or_ge j i with h2|h2
     .exact g2 j hj h2
     .have:j=i:=by omega
      subst this; exact hp
    .simp only [go_sem]
  .have di:decide ((i:Int)<(l.length:Int))=false:=by simp; omega
   apply zgB;simp only[go_sem,di];exact aret [4] rfl ⟨congrArg _ (AeG fun j hj=>g2 j hj (by omega)).symm,rfl⟩
theorem A6P(f:FuncId)(caps:LA)(hc:caps.all frozen0=true)(p:Tk->Bool)(l:List Tk)(hl:l.length<100000000)(hf:∀ x∈l,Pc prog f (tkA x::caps) (· = .bool (p x))) :
  Pc prog 111 [.fz 9 (l.map tkA),.fn (.func f) caps] (· = .bool (l.any p)):=by
 refine zpIB func111 rfl fun h ρ w=>?_
 simp only[go_sem];refine AaX (A6O f caps hc p l hl hf) (by simp only[lat,lbn,nr1,Av.frozen,hc,lbh]) rfl rfl (zgB ?_);simp only[go_sem];refine aret [4] rfl ⟨?_,rfl⟩;simp only[resV,Av.get,Av.put,lav,lbl];rw[<- AjW]
end Go.Proofs.YtgenkcmfeeakoaaGreatDoor
namespace Go.Proofs.YtgenkcmfeeakoaaGreatDoor
open Av RowKit ChangeShapes WideShapes ChangeAt Proofs.Tryz
theorem BoA:Rows.laid_strings_asciiSpace=Lib.tabData (H:=Unit) .u8 Lib.asciiSpaceTab:=by kernel_rfl
theorem BwB{W:World}(h:W.ShapedOpen prog){laid:List (String×DataW Unit)}(hp:(laid.all fun x=>x.2.handleName?.isNone)=true)(hL:laidMetH prog laid W)
  (e1:laid.filter (fun x=>x.1 == "internal/strconv.uint64pow10")=[("internal/strconv.uint64pow10",Rows.laid_internal_strconv_uint64pow10)])
  (e2:laid.filter (fun x=>x.1 == "strconv.ErrSyntax")=[("strconv.ErrSyntax",Rows.laid_strconv_ErrSyntax)])
  (e3:laid.filter (fun x=>x.1 == "strings.asciiSpace")=[("strings.asciiSpace",Rows.laid_strings_asciiSpace)]):LibR (BeF W):=by
 refine ⟨BzY h hp hL e1 e2,?_⟩;rw [MakeChecks.laidMetH_plain _ _ _ hp] at hL;have h1:=hL.filter (fun x=>x.1 == "strings.asciiSpace");rw [e3,BoA] at h1;have ht:=Lib.tabIs_of_head (g:=0) (t:=232) (e:=5) (n:=256) (by kernel_rfl) (by kernel_rfl) underlying232 underlying5 (by kernel_rfl) (by kernel_rfl) h1;exact AuR (by kernel_rfl) ht
