/- The facts of CodeUnpacks that join row and program. -/
import Derived.Test.YtoklnpoacckbfaaGreatDoorRows
import Derived.WalkKit
import Derived.ProofKit
import Derived.SevenTiedAt
namespace Go.Proofs.YtoklnpoacckbfaaGreatDoor.codeUnpacks
open Go.ChangeShapes Go.WideShapes Go.ChangeAt Go.RowKit
theorem j10 : (Rows.codeUnpacksRow.inPlace == Tryz.pinned.checked.prog.inPlace 5) = true := by kernel_rfl
theorem j11 : (Rows.codeUnpacksRow.unfollowed == Tryz.pinned.checked.prog.unfollowed 5) = true := by kernel_rfl
theorem j12 : (Rows.codeUnpacksRow.recurses == Tryz.pinned.checked.prog.recurses 5) = true := by kernel_rfl
theorem j13 : (Rows.codeUnpacksRow.named == Tryz.pinned.checked.prog.varsNamed 5) = true := by kernel_rfl
theorem facts : joinedFacts Tryz.pinned.checked.prog 5 Tryz.f5 Rows.codeUnpacksSpec Rows.codeUnpacksRow = true := by
  unfold joinedFacts
  rw [j10, j11, j12, j13]
  kernel_rfl
end Go.Proofs.YtoklnpoacckbfaaGreatDoor.codeUnpacks
