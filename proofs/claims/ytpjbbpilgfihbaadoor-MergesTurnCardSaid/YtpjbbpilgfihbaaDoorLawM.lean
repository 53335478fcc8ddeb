/- For every list of integers that is drawn the law 'MergesTurn' returns true, and the list reads afterwards as it read before: a merge of two sides over a base is the same from both sides; with the base on one side it is the other side, with the same on both sides that one. The card ties the two listed tables of package unicode/utf8 to the program's text; the law does not read them. No condition. -/
import Derived.Test.YtpjbbpilgfihbaaDoorLw
import Derived.Test.YtpjbbpilgfihbaaDoorMd
set_option maxRecDepth 100000
set_option linter.unusedSimpArgs false
set_option linter.unusedVariables false
namespace Go.Proofs.YtpjbbpilgfihbaaDoor.mergesTurn
open Go Go.Av Go.RowKit Go.ChangeShapes Go.WideShapes Go.ChangeAt

set_option maxRecDepth 100000 in
theorem lifted (os : Os) (started : os.Started) (H : Type) (enc : TypeId × Value → H) :
    ReturnsInHanded {} Tryd.checked os 4 .any (fun w args => (Rows.mergesTurnSpec.pre enc Tryd.prog Tryd.f4 Rows.mergesTurnRow.domain false w args ∧ laidMetH Tryd.prog Rows.mergesTurnRow.laid w) ∧ sizedMet enc Tryd.prog Tryd.f4 (OpenSpec.ofChange Rows.mergesTurnSpec) false w args)
      (Rows.mergesTurnSpec.post enc Tryd.prog Tryd.f4 false true false false) := by
  refine row_and_shaped (C := Tryd.checked) (X := fun w _ => laidMetH Tryd.prog Rows.mergesTurnRow.laid w) (fun _ _ _ hh h => h.of_heap hh) own started (by kernel_rfl) Tryd.func4
    (ChangeSpec.witness_shaped (enc := enc) (C := Tryd.checked) (os := os) (X := fun w _ => laidMetH Tryd.prog Rows.mergesTurnRow.laid w) false (World.laidAll Tryd.prog os Rows.mergesTurnRow.laid) #[.slice none 0 0] 8 (World.laidAll_os _ _ _)
      (World.shaped_of_ZipB (by kernel_rfl) (by kernel_rfl)) (by kernel_rfl) (by kernel_rfl) (by kernel_rfl)
      (by rw [MakeChecks.laidMetH_plain _ _ _ (by kernel_rfl)]; exact laidMet_laidAll _ (by kernel_rfl) (by kernel_rfl))) ?_
  intro W base args ds gs before hval0 hW hsh hL
  have hval : ∀ (j : Nat) t v, Tryd.f4.params[j]? = some t → args[j]? = some v → Value.okWide Tryd.prog W .any base t v := hval0
  have hW' := hW
  obtain ⟨p, q, hA0, hV, rfl, _, _⟩ := hW
  have hA : DataW.TrodAll enc Tryd.prog W 0 (fun _ => true) true Tryd.f4.params.toList args.toList ds p := hA0
  rw [Tryd.params4] at hA hval
  obtain ⟨v0, d0, rfl, rfl, h0⟩ := trodAll_one hA
  obtain ⟨rfl, rfl⟩ := trodVars_none hV
  obtain ⟨L, wL, rv, back⟩ := ints_arg Tryd.underlying22 Tryd.underlying3 c3 (hval 0 22 v0 rfl rfl) h0
  obtain ⟨m, hm⟩ := maxlen hsh
  simp only [List.append_nil] at hW' ⊢
  refine ((merges_pch (gm m) (scripts_pch m) L).atW hm (vs := [v0]) (.cons rv .nil)).mono fun e W' ⟨he, hs⟩ => ?_
  subst he
  exact ⟨_, rfl, post_of_old (pa := p) (pv := []) hW' (fun _ _ _ => trodAll_mk1 (shut_bool Tryd.underlying4 _)) (fun sp hsp => trodAll_mk1 (back W' hs sp hsp)) (fun _ _ => rfl) (by simp) hs (ok_one (by kernel_rfl) rfl (okWide_bool_mk Tryd.underlying4 _))⟩

theorem said : Rows.MergesTurnSaid :=
  OpenClaim.holds_of_wide 4 Tryd.f4 rfl rfl rfl rfl rfl rfl rfl ⟨rfl, rfl, rfl, rfl, rfl⟩ rfl rfl rfl rfl rfl (by kernel_rfl) Tryd.func4 (by kernel_rfl)
    (of_decide_eq_true (by kernel_rfl)) (by unfold Func.isWrapper; first | (rw [if_pos (by decide +kernel)]; kernel_rfl) | (rw [if_neg (by decide +kernel)]; exact ⟨rfl, rfl⟩))
    (fun os started H enc _ => lifted os started H enc)

/-- THE STATEMENT. -/
theorem proved : Rows.MergesTurnCardSaid :=
  Claim7.holds_tied_plain_at .later [] [.data, .pinned] true (true, "f2223469900c7e5e8c3539d210d74e06fcb105856ce53caf71d0276083ad19c9") false said (fun _ h => by cases h) (by kernel_rfl) (fun _ h => by cases h) mergesTurn_row_tie rfl ⟨rfl, rfl⟩ (by kernel_rfl) rfl
    (fun f fn hf hfn => by
      obtain rfl : f = 4 := Option.some.inj ((show Tryd.prog.funcNamed "backlot/backkeep1.MergesTurn" = some 4 by kernel_rfl).symm.trans hf) |>.symm
      obtain rfl : fn = Tryd.f4 := (Option.some.inj (Tryd.func4.symm.trans hfn)).symm
      exact ⟨by kernel_rfl, fun j t ht => by
        rw [Tryd.params4] at ht
        have hm : t ∈ [22] := by simpa using Array.mem_of_getElem? ht
        have hall : ([22].all fun u => !Tryd.prog.wantsStandIn u) = true := by kernel_rfl
        exact (show Tryd.prog.wantsStandIn t = false by simpa using List.all_eq_true.1 hall t hm)⟩)
    (by kernel_rfl)
#print axioms proved
end Go.Proofs.YtpjbbpilgfihbaaDoor.mergesTurn
