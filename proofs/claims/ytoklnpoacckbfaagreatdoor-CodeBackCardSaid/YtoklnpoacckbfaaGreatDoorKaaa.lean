/- The facts of CodeBack that join row and program. -/
import Derived.Test.YtoklnpoacckbfaaGreatDoorRows
import Derived.WalkKit
import Derived.ProofKit
import Derived.SevenTiedAt
namespace Go.Proofs.YtoklnpoacckbfaaGreatDoor.codeBack
open Go.ChangeShapes Go.WideShapes Go.ChangeAt Go.RowKit
theorem j10 : (Rows.codeBackRow.inPlace == Tryz.pinned.checked.prog.inPlace 6) = true := by kernel_rfl
theorem j11 : (Rows.codeBackRow.unfollowed == Tryz.pinned.checked.prog.unfollowed 6) = true := by kernel_rfl
theorem j12 : (Rows.codeBackRow.recurses == Tryz.pinned.checked.prog.recurses 6) = true := by kernel_rfl
theorem j13 : (Rows.codeBackRow.named == Tryz.pinned.checked.prog.varsNamed 6) = true := by kernel_rfl
theorem facts : joinedFacts Tryz.pinned.checked.prog 6 Tryz.f6 Rows.codeBackSpec Rows.codeBackRow = true := by
  unfold joinedFacts
  rw [j10, j11, j12, j13]
  kernel_rfl
end Go.Proofs.YtoklnpoacckbfaaGreatDoor.codeBack
