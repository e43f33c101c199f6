/- Texts of this claim set one behind another by wip/bundle.py: XClos. -/
import Derived.Test.YtkjgnnhpjcofiaaGreatDoorBReadFiles14
import Derived.Shelf.SlicesQ.Load
import Derived.Lib.SlBy
import Derived.Lib.Hide
namespace Go.Proofs.YtkjgnnhpjcofiaaGreatDoor.PX.X
open Go Go.RowKit Go.Lib Go.Proofs.YtkjgnnhpjcofiaaGreatDoorW.PrintWords
set_option linter.unusedVariables false
abbrev FileT := S75
instance : Inhabited FileT := ⟨z75⟩
end Go.Proofs.YtkjgnnhpjcofiaaGreatDoor.PX.X
