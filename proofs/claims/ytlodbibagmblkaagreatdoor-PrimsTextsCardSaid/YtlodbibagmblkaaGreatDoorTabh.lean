/- (*decimal).set, walked: the digits of a text, by value. -/
import Derived.Test.YtlodbibagmblkaaGreatDoorTabg
import Derived.Deep.CutRange
namespace Go.Proofs.YtlodbibagmblkaaGreatDoor
open Go.RowKit Go.Lib
end Go.Proofs.YtlodbibagmblkaaGreatDoor
