/- Texts of this claim set one behind another by wip/bundle.py: WEqStruct. -/
import Derived.Test.YtkjgnnhpjcofiaaGreatDoorBReadFiles9
import Derived.Laws.StructEq
namespace Go.Proofs.YtkjgnnhpjcofiaaGreatDoorW.PrintWords
open Go.RowKit
section
variable {P : Program} {d : Nat} {xs ys : Array Value} {f : Field} {fs : List Field} {a b : Value} {r s : Bool} {w : World}
end
end Go.Proofs.YtkjgnnhpjcofiaaGreatDoorW.PrintWords
