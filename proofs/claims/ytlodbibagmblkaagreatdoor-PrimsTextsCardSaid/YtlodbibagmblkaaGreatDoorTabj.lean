/- floatBits, walked: the shape alone. (Printed by gen_fbt.py.) -/
import Derived.Test.YtlodbibagmblkaaGreatDoorTabi
import Derived.Test.YtlodbibagmblkaaGreatDoorTabe
import Derived.Deep.CutRange
import Derived.BigQuiet
namespace Go.Proofs.YtlodbibagmblkaaGreatDoor
open Go Go.RowKit Go.Lib
end Go.Proofs.YtlodbibagmblkaaGreatDoor
