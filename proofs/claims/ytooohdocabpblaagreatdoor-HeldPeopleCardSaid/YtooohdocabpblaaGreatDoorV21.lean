/- Closed facts about the program, one by one (in one piece they want more memory than a. -/
import Derived.Test.YtooohdocabpblaaGreatDoorV20
set_option maxRecDepth 100000
set_option linter.all false
namespace Go.Proofs.YtooohdocabpblaaGreatDoor.heldPeople
open Av RowKit ChangeShapes WideShapes ChangeAt
theorem cl3:(fun(P:Program)(f:FuncId)(fn:Func)(s:ChangeSpec)(c:OpenClaim)=>fn.params.all (P.readableRec ·)) Tryz.checked.prog 3 Tryz.f3 Rows.heldPeopleSpec Rows.heldPeopleRow=true:=by kernel_rfl
theorem cl4:(fun(P:Program)(f:FuncId)(fn:Func)(s:ChangeSpec)(c:OpenClaim)=>namedTie P c.named s.vars) Tryz.checked.prog 3 Tryz.f3 Rows.heldPeopleSpec Rows.heldPeopleRow=true:=by kernel_rfl
theorem cl5:(fun(P:Program)(f:FuncId)(fn:Func)(s:ChangeSpec)(c:OpenClaim)=>(c.stops==[])) Tryz.checked.prog 3 Tryz.f3 Rows.heldPeopleSpec Rows.heldPeopleRow=true:=by kernel_rfl
theorem cl6:(fun(P:Program)(f:FuncId)(fn:Func)(s:ChangeSpec)(c:OpenClaim)=>(P.stops==[])) Tryz.checked.prog 3 Tryz.f3 Rows.heldPeopleSpec Rows.heldPeopleRow=true:=by kernel_rfl
theorem cl7:(fun(P:Program)(f:FuncId)(fn:Func)(s:ChangeSpec)(c:OpenClaim)=>(c.knobs==[])) Tryz.checked.prog 3 Tryz.f3 Rows.heldPeopleSpec Rows.heldPeopleRow=true:=by kernel_rfl
theorem cl8:(fun(P:Program)(f:FuncId)(fn:Func)(s:ChangeSpec)(c:OpenClaim)=>(P.stopKnobs==[])) Tryz.checked.prog 3 Tryz.f3 Rows.heldPeopleSpec Rows.heldPeopleRow=true:=by kernel_rfl
theorem cl11:(fun(P:Program)(f:FuncId)(fn:Func)(s:ChangeSpec)(c:OpenClaim)=>(c.recurses==P.recurses f)) Tryz.checked.prog 3 Tryz.f3 Rows.heldPeopleSpec Rows.heldPeopleRow=true:=by kernel_rfl
theorem cl12:(fun(P:Program)(f:FuncId)(fn:Func)(s:ChangeSpec)(c:OpenClaim)=>(c.named==P.varsNamed f)) Tryz.checked.prog 3 Tryz.f3 Rows.heldPeopleSpec Rows.heldPeopleRow=true:=by kernel_rfl
theorem cl13:(fun(P:Program)(f:FuncId)(fn:Func)(s:ChangeSpec)(c:OpenClaim)=>(c.maps==(fn.params.toList++s.plain.varTypes P).any (P.mapsRec ·))) Tryz.checked.prog 3 Tryz.f3 Rows.heldPeopleSpec Rows.heldPeopleRow=true:=by kernel_rfl
theorem cl14:(fun(P:Program)(f:FuncId)(fn:Func)(s:ChangeSpec)(c:OpenClaim)=>(c.ifaces==(fn.params.toList++s.plain.varTypes P).any (P.ifacesRec ·))) Tryz.checked.prog 3 Tryz.f3 Rows.heldPeopleSpec Rows.heldPeopleRow=true:=by kernel_rfl
theorem cl15:(fun(P:Program)(f:FuncId)(fn:Func)(s:ChangeSpec)(c:OpenClaim)=>(c.mapsOut==P.mapsAmong fn.resultTypes.toList)) Tryz.checked.prog 3 Tryz.f3 Rows.heldPeopleSpec Rows.heldPeopleRow=true:=by kernel_rfl
theorem cl16:(fun(P:Program)(f:FuncId)(fn:Func)(s:ChangeSpec)(c:OpenClaim)=>(c.loops==(fn.params.toList++s.plain.varTypes P).any (P.loopsFrom ·))) Tryz.checked.prog 3 Tryz.f3 Rows.heldPeopleSpec Rows.heldPeopleRow=true:=by kernel_rfl
theorem cl17:(fun(P:Program)(f:FuncId)(fn:Func)(s:ChangeSpec)(c:OpenClaim)=>(c.wideKeys==(fn.params.toList++s.plain.varTypes P++fn.resultTypes.toList).any (P.wideKeysFrom ·))) Tryz.checked.prog 3 Tryz.f3 Rows.heldPeopleSpec Rows.heldPeopleRow=true:=by kernel_rfl
theorem cl18:(fun(P:Program)(f:FuncId)(fn:Func)(s:ChangeSpec)(c:OpenClaim)=>s.vars.all (P.varReadable ·)) Tryz.checked.prog 3 Tryz.f3 Rows.heldPeopleSpec Rows.heldPeopleRow=true:=by kernel_rfl
theorem cl19:(fun(P:Program)(f:FuncId)(fn:Func)(s:ChangeSpec)(c:OpenClaim)=>fn.resultTypes.all (fun t=>P.readableRec t&&decide (t<P.types.size))) Tryz.checked.prog 3 Tryz.f3 Rows.heldPeopleSpec Rows.heldPeopleRow=true:=by kernel_rfl
theorem cl20:(fun(P:Program)(f:FuncId)(fn:Func)(s:ChangeSpec)(c:OpenClaim)=>(c.ifacesOut==fn.resultTypes.toList.any (P.ifacesRec ·))) Tryz.checked.prog 3 Tryz.f3 Rows.heldPeopleSpec Rows.heldPeopleRow=true:=by kernel_rfl
theorem cl21:(fun(P:Program)(f:FuncId)(fn:Func)(s:ChangeSpec)(c:OpenClaim)=>(c.loopsOut==fn.resultTypes.toList.any (P.loopsFrom ·))) Tryz.checked.prog 3 Tryz.f3 Rows.heldPeopleSpec Rows.heldPeopleRow=true:=by kernel_rfl
theorem cl22:(fun(P:Program)(f:FuncId)(fn:Func)(s:ChangeSpec)(c:OpenClaim)=>(c.plainKeys==P.plainKeys)) Tryz.checked.prog 3 Tryz.f3 Rows.heldPeopleSpec Rows.heldPeopleRow=true:=by kernel_rfl
theorem cl23:(fun(P:Program)(f:FuncId)(fn:Func)(s:ChangeSpec)(c:OpenClaim)=>c.shortTexts.isNone) Tryz.checked.prog 3 Tryz.f3 Rows.heldPeopleSpec Rows.heldPeopleRow=true:=by kernel_rfl
theorem cl24:(fun(P:Program)(f:FuncId)(fn:Func)(s:ChangeSpec)(c:OpenClaim)=>P.stopsHeard) Tryz.checked.prog 3 Tryz.f3 Rows.heldPeopleSpec Rows.heldPeopleRow=true:=by kernel_rfl
theorem cl25:(fun(P:Program)(f:FuncId)(fn:Func)(s:ChangeSpec)(c:OpenClaim)=>P.mayEnter) Tryz.checked.prog 3 Tryz.f3 Rows.heldPeopleSpec Rows.heldPeopleRow=true:=by kernel_rfl
theorem cl26:(fun(P:Program)(f:FuncId)(fn:Func)(s:ChangeSpec)(c:OpenClaim)=>(c.lifted==P.liftsFinal)) Tryz.checked.prog 3 Tryz.f3 Rows.heldPeopleSpec Rows.heldPeopleRow=true:=by kernel_rfl
theorem cl28:(fun(P:Program)(f:FuncId)(fn:Func)(s:ChangeSpec)(c:OpenClaim)=>(c.kinds==(if c.domain.isEmpty then[] else fn.params.toList.map fun t=>match P.underlying t with|some (.int k)=>some k|_=>none))) Tryz.checked.prog 3 Tryz.f3 Rows.heldPeopleSpec Rows.heldPeopleRow=true:=by kernel_rfl
theorem cl29:(fun(P:Program)(f:FuncId)(fn:Func)(s:ChangeSpec)(c:OpenClaim)=>(c.pinned==c.pinnedBy)) Tryz.checked.prog 3 Tryz.f3 Rows.heldPeopleSpec Rows.heldPeopleRow=true:=by kernel_rfl
theorem cl30:(fun(P:Program)(f:FuncId)(fn:Func)(s:ChangeSpec)(c:OpenClaim)=>(c.veiled==(fn.params.toList++s.plain.varTypes P++fn.resultTypes.toList).any (P.veiledRec ·))) Tryz.checked.prog 3 Tryz.f3 Rows.heldPeopleSpec Rows.heldPeopleRow=true:=by kernel_rfl
theorem cl31:(fun(P:Program)(f:FuncId)(fn:Func)(s:ChangeSpec)(c:OpenClaim)=>c.veiledFits P fn.params.toList (fn.params.toList++s.plain.varTypes P++fn.resultTypes.toList)) Tryz.checked.prog 3 Tryz.f3 Rows.heldPeopleSpec Rows.heldPeopleRow=true:=by kernel_rfl
theorem A8R:joinedFacts Tryz.checked.prog 3 Tryz.f3 Rows.heldPeopleSpec Rows.heldPeopleRow=true:=by
 unfold joinedFacts;simp only[lac];exact⟨⟨⟨⟨⟨⟨⟨⟨⟨⟨⟨⟨⟨⟨⟨⟨⟨⟨⟨⟨⟨⟨⟨⟨⟨⟨⟨⟨⟨⟨⟨cl0,cl1⟩,cl2⟩,cl3⟩,cl4⟩,cl5⟩,cl6⟩,cl7⟩,cl8⟩,cl9⟩,cl10⟩,cl11⟩,cl12⟩,cl13⟩,cl14⟩,cl15⟩,cl16⟩,cl17⟩,cl18⟩,cl19⟩,cl20⟩,cl21⟩,cl22⟩,cl23⟩,cl24⟩,cl25⟩,cl26⟩,cl27⟩,cl28⟩,cl29⟩,cl30⟩,cl31⟩
