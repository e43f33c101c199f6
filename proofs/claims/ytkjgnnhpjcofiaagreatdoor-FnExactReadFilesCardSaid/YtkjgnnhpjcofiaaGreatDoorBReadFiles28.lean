/- Texts of this claim set one behind another by wip/bundle.py: XClashRow. -/
import Derived.Test.YtkjgnnhpjcofiaaGreatDoorBReadFiles7
import Derived.Test.YtkjgnnhpjcofiaaGreatDoorBReadFiles9
import Derived.Test.YtkjgnnhpjcofiaaGreatDoorBReadFiles3
import Derived.Lib.Hide
import Derived.Lib.OwnBridge
import Derived.Shelf.Slices.CompactS
namespace Go.Proofs.YtkjgnnhpjcofiaaGreatDoor.PX.X
open Go Go.RowKit Go.Proofs.YtkjgnnhpjcofiaaGreatDoorW.PrintWords
set_option linter.unusedVariables false
set_option linter.unusedSimpArgs false
end Go.Proofs.YtkjgnnhpjcofiaaGreatDoor.PX.X
