/- Texts of this claim set one behind another by wip/bundle.py: XReadL. -/
import Derived.Test.YtkjgnnhpjcofiaaGreatDoorBReadFiles27
import Derived.Test.YtkjgnnhpjcofiaaGreatDoorBReadFiles7
namespace Go.Proofs.YtkjgnnhpjcofiaaGreatDoor.PX.X
open Go Go.RowKit Go.Lib Go.Proofs.YtkjgnnhpjcofiaaGreatDoorW.PrintWords Go.Proofs.YtkjgnnhpjcofiaaGreatDoor.PX
set_option linter.unusedVariables false
set_option linter.unusedSimpArgs false
set_option maxHeartbeats 1000000 in
theorem litF (x y : FileT) (W : World) : Calls Tryz.prog 79 #[.agg (encF x).toArray, .agg (encF y).toArray] W fun e w' => e = .returned (.int .i64 (cfF x y)) ∧ ∃ q os, w' = Go.Sort.grow (W.drewN q) os := by
 have hcmp : ∀ W', Calls Tryz.prog 80 #[.string x.f0, .string y.f0] W' fun e w' => e = .returned (.int .i64 (cfF x y)) ∧ W' = w' := fun W' => (Any.strings_Compare Tryz.lays106 x.f0 y.f0 W').mono fun e w' ⟨he, hw⟩ => ⟨he, hw.symm⟩
 have HC := Lib.hid hcmp
 clear hcmp
 show Calls _ _ #[.agg #[.string x.f0, .int .i64 x.f1, .string x.f2], .agg #[.string y.f0, .int .i64 y.f1, .string y.f2]] _ _
 generalize cfF x y = c at HC ⊢
 go_enter Tryz.func79, Tryz.ntmps79
 go_wp2_with (go_at_call 80; (with_reducible refine (HC.out _).mono ?_); rintro e w' ⟨rfl, rfl⟩)
 go_ret
 refine ⟨rfl, 0, #[.cells #[.string x.f0, .int .i64 x.f1, .string x.f2] 75 (0, 0), .cells #[.string y.f0, .int .i64 y.f1, .string y.f2] 75 (0, 0)], ?_⟩
 unfold World.alloc Go.Sort.grow World.drewN
 simp only [Nat.add_zero]
 congr 1
theorem litF_eg (args : Array Value) (w : World) : (callFunc 79 args).run Tryz.prog w = .ok (.enter 79 args) w := enters_of Tryz.func79 zq3 rfl args w
end Go.Proofs.YtkjgnnhpjcofiaaGreatDoor.PX.X
