/- Lemmas. -/
import Derived.Test.YtkhphoonnkoipaaGreatDoorVa0
import Derived.Test.YtkhphoonnkoipaaGreatDoorRows
import Derived.WalkKit
import Derived.ProofKit
import Derived.Lay
import Derived.LaidOnce
import Derived.SevenTiedAt
set_option linter.all false
open Go.Proofs.Tryz Go.RowKit Go.Lib
namespace Go.Proofs.YtkhphoonnkoipaaGreatDoor
open Go.RowKit
open Go.ChangeShapes Go.WideShapes Go.ChangeAt
def uE:List (String×DataW Unit):=Rows.primsValuesRow.laid
theorem Wb:(uE.all fun x=>x.2.handleName?.isNone)=true:=by kernel_rfl
theorem afD (os:Os):(World.holding prog os ⟨#[],#[],[]⟩).layFits prog uE []=true:=by kernel_rfl
theorem afE (os:Os):(World.holding prog os ⟨#[],#[],[]⟩).layIfaces prog uE (World.laidAll prog os uE)=true:=by kernel_rfl
end Go.Proofs.YtkhphoonnkoipaaGreatDoor
