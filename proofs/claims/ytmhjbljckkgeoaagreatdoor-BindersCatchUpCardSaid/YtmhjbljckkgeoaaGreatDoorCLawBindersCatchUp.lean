/- The law that binders catch up. Own work of this seat. -/
import Derived.Test.YtmhjbljckkgeoaaGreatDoorC53
set_option maxRecDepth 100000
set_option linter.unusedSimpArgs false
set_option linter.unusedVariables false
namespace Go.Proofs.YtmhjbljckkgeoaaGreatDoor.bindersCatchUp
open Go Go.Av Go.RowKit Go.ChangeShapes Go.WideShapes Go.ChangeAt _root_.Go.Proofs.Tryz
theorem proved:Rows.BindersCatchUpCardSaid :=
 Claim7.holds_tied_plain_at .later [] [.data,.data,.data,.data,.sentinel,.sentinel,.listed,.data,.pinned] true (true,"f995194736b251aba1f3d42280f984b5b47f2cbc09c9df7a1e2d4ab28060dd53") true said (fun _ h=>by cases h) (by kernel_rfl) (fun _ h=>by cases h) bindersCatchUp_row_tie rfl ⟨rfl,rfl⟩ lD rfl
  (fun f fn hf hfn=>by
   obtain rfl:f=3:=Option.some.inj (lN.symm.trans hf) |>.symm;obtain rfl:fn=Tryz.f3:=(Option.some.inj (func3.symm.trans hfn)).symm;exact⟨lK,fun j t ht=>by
    rw[Tryz.params3]at ht;have hm:t∈[22]:=by simpa using Array.mem_of_getElem? ht
    exact by simpa using List.all_eq_true.1 lW t hm⟩)
  lG
#print axioms proved
end Go.Proofs.YtmhjbljckkgeoaaGreatDoor.bindersCatchUp
