/- For whatever stream of numbers: backtop.HeldPeople is true and leaves its argument as it was. No condition. Own work of this seat. -/
import Derived.Test.YtooohdocabpblaaGreatDoorV21
import Derived.Test.YtooohdocabpblaaGreatDoorV32
set_option maxRecDepth 100000
set_option linter.unusedSimpArgs false
set_option linter.unusedVariables false
namespace Go.Proofs.YtooohdocabpblaaGreatDoor.heldPeople
open Go Go.Av Go.RowKit Go.ChangeShapes Go.WideShapes Go.ChangeAt _root_.Go.Proofs.Tryz
set_option maxRecDepth 100000 in
theorem lifted(os:Os)(started:os.Started)(H:Type)(enc:TypeId×Value->H) :
  ReturnsInHanded {} Tryz.checked os 3 .any (fun w args=>(Rows.heldPeopleSpec.pre enc prog Tryz.f3 Rows.heldPeopleRow.domain false w args/\laidMetH prog Rows.heldPeopleRow.laid w)/\sizedMet enc prog Tryz.f3 (OpenSpec.ofChange Rows.heldPeopleSpec) false w args)
   (Rows.heldPeopleSpec.post enc prog Tryz.f3 false true false false):=by
 refine AjR (C:=Tryz.checked) (X:=fun w _=>laidMetH prog Rows.heldPeopleRow.laid w) (fun _ _ _ hh h=>h.of_heap hh) own started (by kernel_rfl) func3
  (ChangeSpec.witness_shaped (enc:=enc) (C:=Tryz.checked) (os:=os) (X:=fun w _=>laidMetH prog Rows.heldPeopleRow.laid w) false (World.laidAll prog os Rows.heldPeopleRow.laid) #[.slice none 0 0] 8 (World.laidAll_os _ _ _)
   (World.shaped_of_ZipB (by kernel_rfl) (by kernel_rfl)) (by kernel_rfl) (by kernel_rfl) (by kernel_rfl)
   (by rw[MakeChecks.laidMetH_plain _ _ _ (by kernel_rfl)]; exact laidMet_laidAll _ (by kernel_rfl) (by kernel_rfl))) ?_
 intro W base args ds gs before hval0 hW hsh hL;have hval:∀ (j:Nat) t v,Tryz.f3.params[j]? = some t->args[j]? = some v->Value.okWide prog W .any base t v:=hval0;have hW':=hW;obtain⟨p,q,hA0,hV,rfl,_,_⟩:=hW;have hA:DataW.TrodAll enc prog W 0 (fun _=>true) true Tryz.f3.params.toList args.toList ds p:=hA0;rw[Tryz.params3]at hA hval;obtain⟨v0,d0,rfl,rfl,h0⟩:=trodAll_one hA;obtain⟨rfl,rfl⟩:=trodVars_none hV;obtain⟨L,wL,rv,back⟩:=AzX underlying22 underlying3 c3 (hval 0 22 v0 rfl rfl) h0;have hS:LibOk (AtZ W):=A7F hsh (by kernel_rfl) hL (by kernel_rfl) (by kernel_rfl); have hK:KeyOk (AtZ W):=A8Q (by kernel_rfl) hL (by kernel_rfl) (by kernel_rfl);simp only[List.append_nil]at hW' |-;refine((AjX hS hK L).atW (A2L W) (vs:=[v0]) (.cons rv .nil)).mono fun e W' ⟨he,hs⟩=>?_
 subst he;exact⟨_,rfl,AqJ (pa:=p) (pv:=[]) hW' (fun _ _ _=>trodAll_mk1 (shut_bool underlying4 _)) (fun sp hsp=>trodAll_mk1 (back W' hs sp hsp)) (fun _ _=>rfl) (by simp) hs (ok_one (by kernel_rfl) rfl (okWide_bool_mk underlying4 _))⟩
theorem said:Rows.HeldPeopleSaid :=
 OpenClaim.holds_of_wide 3 Tryz.f3 rfl rfl rfl rfl rfl rfl rfl ⟨rfl,rfl,rfl,rfl,rfl⟩ rfl rfl rfl rfl rfl (by kernel_rfl) func3 A8R
  (of_decide_eq_true (by kernel_rfl)) (by unfold Func.isWrapper; first|(rw[if_pos (by decide +kernel)]; kernel_rfl)|(rw[if_neg (by decide +kernel)]; exact⟨rfl,rfl⟩))
  (fun os started H enc _=>lifted os started H enc)
theorem proved:Rows.HeldPeopleCardSaid :=
 Claim7.holds_tied_plain_at .later [] [.data,.data,.data,.data,.sentinel,.sentinel,.widerDeep,.widerDeep,.pinned] true (true,"7de8aded394e14bea71efc00e96ab6a8e34dbe7df4fc582b38ca4b282d78530d") true said (fun _ h=>by cases h) (by kernel_rfl) (fun _ h=>by cases h) heldPeople_row_tie rfl ⟨rfl,rfl⟩ (by kernel_rfl) rfl
  (fun f fn hf hfn=>by
   obtain rfl:f=3:=Option.some.inj ((show prog.funcNamed "backlot/backtop.HeldPeople" = some 3 by kernel_rfl).symm.trans hf) |>.symm;obtain rfl:fn=Tryz.f3:=(Option.some.inj (func3.symm.trans hfn)).symm;exact ⟨by kernel_rfl,fun j t ht=>by
    rw[Tryz.params3]at ht;have hm:t∈[22]:=by simpa using Array.mem_of_getElem? ht
    have hall:([22].all fun u=>!prog.wantsStandIn u)=true:=by kernel_rfl
    exact(show prog.wantsStandIn t=false by simpa using List.all_eq_true.1 hall t hm)⟩)
  (by kernel_rfl)
#print axioms proved
end Go.Proofs.YtooohdocabpblaaGreatDoor.heldPeople
