/- PrimsValues is proved: whatever a primitive answers is a value, and what fails answers nothing; for every number and all arguments, with no condition beside those of the given statement. -/
import Derived.Test.YtkhphoonnkoipaaGreatDoorVabo
set_option linter.all false
open Go.Proofs.Tryz Go.RowKit Go.Lib
open Bool renaming true→ai
namespace Go.Proofs.YtkhphoonnkoipaaGreatDoor.primsValues
theorem c1:Rows.primsValuesRow.wfByText (OpenSpec.ofChange Rows.primsValuesSpec)=ai:=by kernel_rfl
theorem c2:Tryz.pinned.checked.prog.mainIs=some (((ai,"33ae82a798a89176ee417e5365a14de7a36bbf651cdca1723efc24c45d273860"):Bool×String).1,((ai,"33ae82a798a89176ee417e5365a14de7a36bbf651cdca1723efc24c45d273860"):Bool×String).2.toList):=by kernel_rfl
theorem c3:ai=Tryz.pinned.checked.prog.looks []:=by kernel_rfl
theorem c4:false=Rows.primsValuesRow.goesBy Tryz.pinned.checked.prog:=by kernel_rfl
theorem c5:prog.funcNamed "palaver/palaverlaw21.PrimsValues" = some 3:=by kernel_rfl
theorem rp:([3,22].all fun u=>!prog.wantsStandIn u)=ai:=by kernel_rfl
theorem proved:Rows.PrimsValuesCardSaid:=
 Claim7.holds_tied_plain_at .later [] [.data,.data,.widerDeep,.widerDeep,.data,.data,.data,.data,.data,.data,.sentinel,.sentinel,.pinned,.pinned,.pinned] ai (ai,"33ae82a798a89176ee417e5365a14de7a36bbf651cdca1723efc24c45d273860") ai
  over (fun _ h=>by cases h) c1 (fun _ h=>by cases h) primsValues_row_tie rfl ⟨rfl,rfl⟩ c2 rfl
  (fun f fn bd Ii=>by
   obtain rfl:f=3:=hb (c5.symm.trans bd) |>.symm;obtain rfl:fn=f3:=(hb (func3.symm.trans Ii)).symm;exact⟨c3,fun j t bn=>by
    rw[params3] at bn;have hm:t ∈ [3,22]:=by have:=Array.mem_of_getElem? bn;simpa using this
    exact (show prog.wantsStandIn t=false by simpa using List.all_eq_true.1 rp t hm)⟩)
  c4
end Go.Proofs.YtkhphoonnkoipaaGreatDoor.primsValues
