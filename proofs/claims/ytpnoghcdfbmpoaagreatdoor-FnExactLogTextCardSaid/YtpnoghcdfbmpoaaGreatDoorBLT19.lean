/- Texts of this claim set one behind another by wip/bundle.py: XKdO. -/
import Derived.Test.YtpnoghcdfbmpoaaGreatDoorBLT15
import Derived.Test.YtpnoghcdfbmpoaaGreatDoorBLT13
namespace Go.Proofs.YtpnoghcdfbmpoaaGreatDoor.PX.X
open Go Go.RowKit Go.Lib Go.Proofs.YtpnoghcdfbmpoaaGreatDoorW.PrintWords
set_option linter.unusedVariables false
abbrev ObjT := S50
instance : Inhabited ObjT := ⟨z50⟩
def encO (x : S50) : List Value := [.string x.f0, .int .i64 x.f1, .string x.f2]
theorem flatO : Flat k50 encO 3 where
 sz := rfl
 pos := by decide
 len := fun _ => rfl
 one := by
  intro x u hu
  have hu' : u ∈ [.string x.f0, .int .i64 x.f1, .string x.f2] := hu
  simp only [List.mem_cons, List.not_mem_nil, or_false] at hu'
  rcases hu' with rfl | rfl | rfl
  all_goals rfl
 M := fun {w base ok x cs} => ⟨fun h => k50_openM h, fun h => by subst h; exact k50_mkM w base ok x⟩
 K := fun {w x cs} => ⟨fun h => k50_open h, fun h => by subst h; exact k50_mk w x⟩
end Go.Proofs.YtpnoghcdfbmpoaaGreatDoor.PX.X
