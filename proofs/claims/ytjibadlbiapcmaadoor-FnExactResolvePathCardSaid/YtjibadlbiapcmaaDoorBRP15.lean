/- Texts of this claim set one behind another by wip/bundle.py: XKdE. -/
import Derived.Test.YtjibadlbiapcmaaDoorBRP12
import Derived.Test.YtjibadlbiapcmaaDoorBRP10
namespace Go.Proofs.YtjibadlbiapcmaaDoor.PX.X
open Go Go.RowKit Go.Lib Go.Proofs.YtjibadlbiapcmaaDoorW.PrintWords
set_option linter.unusedVariables false
abbrev EntT := S80
instance : Inhabited EntT := ⟨z80⟩
def encE (x : S80) : List Value := [.string x.f0, .int .i64 x.f1, .int .i64 x.f2, .string x.f3]
theorem flatE : Flat k80 encE 4 where
  sz := rfl
  pos := by decide
  len := fun _ => rfl
  one := by
    intro x u hu
    have hu' : u ∈ [.string x.f0, .int .i64 x.f1, .int .i64 x.f2, .string x.f3] := hu
    simp only [List.mem_cons, List.not_mem_nil, or_false] at hu'
    rcases hu' with rfl | rfl | rfl | rfl
    all_goals rfl
  M := fun {w base ok x cs} => ⟨fun h => k80_openM h, fun h => by subst h; exact k80_mkM w base ok x⟩
  K := fun {w x cs} => ⟨fun h => k80_open h, fun h => by subst h; exact k80_mk w x⟩
end Go.Proofs.YtjibadlbiapcmaaDoor.PX.X
