/- What a tag says is so in the sheet; without tags all counts are those of rules -/
import Derived.Test.YtnfkjpihaficbaaGreatDoorH19
import Derived.Test.YtnfkjpihaficbaaGreatDoorH50
set_option maxRecDepth 100000
set_option linter.unusedSimpArgs false
set_option linter.unusedVariables false
namespace Go.Proofs.YtnfkjpihaficbaaGreatDoor.handsOutrankRules
open Go Go.Av Go.RowKit Go.ChangeShapes Go.WideShapes Go.ChangeAt
set_option maxRecDepth 100000 in
theorem lifted (os:Os) (started:os.Started) (H:Type) (enc:TypeId × Value→H) :
  ReturnsInHanded {} Tryz.checked os 3 .any (fun w args=>(Rows.handsOutrankRulesSpec.pre enc Tryz.prog Tryz.f3 Rows.handsOutrankRulesRow.domain false w args∧laidMetH Tryz.prog Rows.handsOutrankRulesRow.laid w)∧sizedMet enc Tryz.prog Tryz.f3 (OpenSpec.ofChange Rows.handsOutrankRulesSpec) false w args)
   (Rows.handsOutrankRulesSpec.post enc Tryz.prog Tryz.f3 false true false false):=by
 refine row_and_shaped (C:=Tryz.checked) (X:=fun w _=>laidMetH Tryz.prog Rows.handsOutrankRulesRow.laid w) (fun _ _ _ hh h=>h.of_heap hh) own started (by kernel_rfl) Tryz.func3
  (ChangeSpec.witness_shaped (enc:=enc) (C:=Tryz.checked) (os:=os) (X:=fun w _=>laidMetH Tryz.prog Rows.handsOutrankRulesRow.laid w) false (World.laidAll Tryz.prog os Rows.handsOutrankRulesRow.laid) #[.slice none 0 0] 8 (World.laidAll_os _ _ _)
   (World.shaped_of_ZipB (by kernel_rfl) (by kernel_rfl)) (by kernel_rfl) (by kernel_rfl) (by kernel_rfl)
   (by rw [MakeChecks.laidMetH_plain _ _ _ (by kernel_rfl)]; exact laidMet_laidAll _ (by kernel_rfl) (by kernel_rfl))) ?_
 intro W base args ds gs before hval0 hW hsh hL
 have hval:∀ (j:Nat) t v,Tryz.f3.params[j]? = some t→args[j]? = some v→Value.okWide Tryz.prog W .any base t v:=hval0
 have hW':=hW
 obtain ⟨p,q,hA0,hV,rfl,_,_⟩:=hW
 have hA:DataW.TrodAll enc Tryz.prog W 0 (fun _=>true) true Tryz.f3.params.toList args.toList ds p:=hA0
 rw [Tryz.params3] at hA hval
 obtain ⟨v0,d0,rfl,rfl,h0⟩:=trodAll_one hA
 obtain ⟨rfl,rfl⟩:=trodVars_none hV
 obtain ⟨L,wL,rv,back⟩:=ints_arg Tryz.underlying22 Tryz.underlying3 c3 (hval 0 22 v0 rfl rfl) h0
 have hS:LibOk (stdOf W):=lib_ok hsh (by kernel_rfl) hL (by kernel_rfl) (by kernel_rfl)
 simp only [List.append_nil] at hW' ⊢
 refine ((handsOutrank_pch hS L).atW (stands W) (vs:=[v0]) (.cons rv .nil)).mono fun e W' ⟨he,hs⟩=>?_
 subst he
 exact ⟨_,rfl,post_of_old (pa:=p) (pv:=[]) hW' (fun _ _ _=>trodAll_mk1 (shut_bool Tryz.underlying4 _)) (fun sp hsp=>trodAll_mk1 (back W' hs sp hsp)) (fun _ _=>rfl) (by simp) hs (ok_one (by kernel_rfl) rfl (okWide_bool_mk Tryz.underlying4 _))⟩
theorem said:Rows.HandsOutrankRulesSaid :=
 OpenClaim.holds_of_wide 3 Tryz.f3 rfl rfl rfl rfl rfl rfl rfl ⟨rfl,rfl,rfl,rfl,rfl⟩ rfl rfl rfl rfl rfl (by kernel_rfl) Tryz.func3 closed
  (of_decide_eq_true (by kernel_rfl)) (by unfold Func.isWrapper; first | (rw [if_pos (by decide +kernel)]; kernel_rfl) | (rw [if_neg (by decide +kernel)]; exact ⟨rfl,rfl⟩))
  (fun os started H enc _=>lifted os started H enc)
theorem proved:Rows.HandsOutrankRulesCardSaid :=
 Claim7.holds_tied_plain_at .later [] [.data,.data,.data,.data,.sentinel,.sentinel,.pinned] true (true,"2b9d47ecf665012a012cca01f88d15b4260fee7dcae6a2e3c5741181bf7b5642") true said (fun _ h=>by cases h) (by kernel_rfl) (fun _ h=>by cases h) handsOutrankRules_row_tie rfl ⟨rfl,rfl⟩ (by kernel_rfl) rfl
  (fun f fn hf hfn=>by
   obtain rfl:f=3:=Option.some.inj ((show Tryz.prog.funcNamed "backlot/backkeep1.HandsOutrankRules" = some 3 by kernel_rfl).symm.trans hf) |>.symm
   obtain rfl:fn=Tryz.f3:=(Option.some.inj (Tryz.func3.symm.trans hfn)).symm
   exact ⟨by kernel_rfl,fun j t ht=>by
    rw [Tryz.params3] at ht
    have hm:t ∈ [22]:=by simpa using Array.mem_of_getElem? ht
    have hall:([22].all fun u=>!Tryz.prog.wantsStandIn u)=true:=by kernel_rfl
    exact (show Tryz.prog.wantsStandIn t=false by simpa using List.all_eq_true.1 hall t hm)⟩)
  (by kernel_rfl)
#print axioms proved
end Go.Proofs.YtnfkjpihaficbaaGreatDoor.handsOutrankRules
