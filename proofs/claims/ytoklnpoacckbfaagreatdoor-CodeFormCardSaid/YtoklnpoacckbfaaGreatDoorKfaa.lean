/- The facts of CodeForm that join row and program. -/
import Derived.Test.YtoklnpoacckbfaaGreatDoorRows
import Derived.WalkKit
import Derived.ProofKit
import Derived.SevenTiedAt
namespace Go.Proofs.YtoklnpoacckbfaaGreatDoor.codeForm
open Go.ChangeShapes Go.WideShapes Go.ChangeAt Go.RowKit
theorem j10 : (Rows.codeFormRow.inPlace == Tryz.pinned.checked.prog.inPlace 7) = true := by kernel_rfl
theorem j11 : (Rows.codeFormRow.unfollowed == Tryz.pinned.checked.prog.unfollowed 7) = true := by kernel_rfl
theorem j12 : (Rows.codeFormRow.recurses == Tryz.pinned.checked.prog.recurses 7) = true := by kernel_rfl
theorem j13 : (Rows.codeFormRow.named == Tryz.pinned.checked.prog.varsNamed 7) = true := by kernel_rfl
theorem facts : joinedFacts Tryz.pinned.checked.prog 7 Tryz.f7 Rows.codeFormSpec Rows.codeFormRow = true := by
  unfold joinedFacts
  rw [j10, j11, j12, j13]
  kernel_rfl
end Go.Proofs.YtoklnpoacckbfaaGreatDoor.codeForm
