/- Texts of this claim set one behind another by wip/bundle.py: XKdO. -/
import Derived.Test.YtkjgnnhpjcofiaaGreatDoorBReadFiles14
import Derived.Test.YtkjgnnhpjcofiaaGreatDoorBReadFiles12
namespace Go.Proofs.YtkjgnnhpjcofiaaGreatDoor.PX.X
open Go Go.RowKit Go.Lib Go.Proofs.YtkjgnnhpjcofiaaGreatDoorW.PrintWords
set_option linter.unusedVariables false
abbrev ObjT := S65
instance : Inhabited ObjT := ⟨z65⟩
def encO (x : S65) : List Value := [.string x.f0, .int .i64 x.f1, .string x.f2]
theorem flatO : Flat k65 encO 3 where
 sz := rfl
 pos := by decide
 len := fun _ => rfl
 one := by
  intro x u hu
  have hu' : u ∈ [.string x.f0, .int .i64 x.f1, .string x.f2] := hu
  simp only [List.mem_cons, List.not_mem_nil, or_false] at hu'
  rcases hu' with rfl | rfl | rfl
  all_goals rfl
 M := fun {w base ok x cs} => ⟨fun h => k65_openM h, fun h => by subst h; exact k65_mkM w base ok x⟩
 K := fun {w x cs} => ⟨fun h => k65_open h, fun h => by subst h; exact k65_mk w x⟩
end Go.Proofs.YtkjgnnhpjcofiaaGreatDoor.PX.X
