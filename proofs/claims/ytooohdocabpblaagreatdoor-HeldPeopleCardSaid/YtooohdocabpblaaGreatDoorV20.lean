/- Closed facts about the program, one by one (in one piece they want more memory than a. -/
import Derived.Test.YtooohdocabpblaaGreatDoorV14
set_option maxRecDepth 100000
set_option linter.all false
namespace Go.Proofs.YtooohdocabpblaaGreatDoor.heldPeople
open Av RowKit ChangeShapes WideShapes ChangeAt
theorem cl0:(fun(P:Program)(f:FuncId)(fn:Func)(s:ChangeSpec)(c:OpenClaim)=>c.wf (OpenSpec.ofChange s)) Tryz.checked.prog 3 Tryz.f3 Rows.heldPeopleSpec Rows.heldPeopleRow=true:=by kernel_rfl
theorem cl1:(fun(P:Program)(f:FuncId)(fn:Func)(s:ChangeSpec)(c:OpenClaim)=>laidOutB P) Tryz.checked.prog 3 Tryz.f3 Rows.heldPeopleSpec Rows.heldPeopleRow=true:=by kernel_rfl
theorem cl2:(fun(P:Program)(f:FuncId)(fn:Func)(s:ChangeSpec)(c:OpenClaim)=>mapsRowed P) Tryz.checked.prog 3 Tryz.f3 Rows.heldPeopleSpec Rows.heldPeopleRow=true:=by kernel_rfl
theorem cl9:(fun(P:Program)(f:FuncId)(fn:Func)(s:ChangeSpec)(c:OpenClaim)=>(c.inPlace==P.inPlace f)) Tryz.checked.prog 3 Tryz.f3 Rows.heldPeopleSpec Rows.heldPeopleRow=true:=by kernel_rfl
theorem cl10:(fun(P:Program)(f:FuncId)(fn:Func)(s:ChangeSpec)(c:OpenClaim)=>(c.unfollowed==P.unfollowed f)) Tryz.checked.prog 3 Tryz.f3 Rows.heldPeopleSpec Rows.heldPeopleRow=true:=by kernel_rfl
theorem cl27:(fun(P:Program)(f:FuncId)(fn:Func)(s:ChangeSpec)(c:OpenClaim)=>(P.make==some c.make)) Tryz.checked.prog 3 Tryz.f3 Rows.heldPeopleSpec Rows.heldPeopleRow=true:=by kernel_rfl
