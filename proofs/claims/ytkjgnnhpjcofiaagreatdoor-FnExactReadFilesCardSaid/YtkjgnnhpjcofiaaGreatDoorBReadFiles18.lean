/- Texts of this claim set one behind another by wip/bundle.py: XModeW. -/
import Derived.Test.YtkjgnnhpjcofiaaGreatDoorBReadFiles14
import Derived.Lib.Hide
import Derived.StillTailTactics
namespace Go.Proofs.YtkjgnnhpjcofiaaGreatDoor.PX.X
open Go Go.RowKit Go.Lib Go.Proofs.YtkjgnnhpjcofiaaGreatDoorW.PrintWords
set_option linter.unusedVariables false
def modeB (m : Int) : ByteArray := if m = 1 then ⟨#[102, 105, 108, 101]⟩ else if m = 2 then ⟨#[114, 117, 110]⟩ else ⟨#[116, 114, 101, 101]⟩
def modeIn (m : Int) : Bool := decide (m = 1) || (decide (m = 2) || decide (m = 3))
theorem word1 (w : World) : (Sem.run Tryz.prog (Instr.index 215 (.agg #[.string ⟨#[102, 105, 108, 101]⟩, .string ⟨#[114, 117, 110]⟩, .string ⟨#[116, 114, 101, 101]⟩]) (.int .i64 0)) w) = .ok (.string ⟨#[102, 105, 108, 101]⟩) w := by kernel_rfl
theorem word2 (w : World) : (Sem.run Tryz.prog (Instr.index 215 (.agg #[.string ⟨#[102, 105, 108, 101]⟩, .string ⟨#[114, 117, 110]⟩, .string ⟨#[116, 114, 101, 101]⟩]) (.int .i64 1)) w) = .ok (.string ⟨#[114, 117, 110]⟩) w := by kernel_rfl
theorem word3 (w : World) : (Sem.run Tryz.prog (Instr.index 215 (.agg #[.string ⟨#[102, 105, 108, 101]⟩, .string ⟨#[114, 117, 110]⟩, .string ⟨#[116, 114, 101, 101]⟩]) (.int .i64 2)) w) = .ok (.string ⟨#[116, 114, 101, 101]⟩) w := by kernel_rfl
set_option maxRecDepth 8000 in
theorem modeWord_calls (m : Int) (w : World) (h : modeIn m = true) : Calls Tryz.prog 150 #[.int .i64 m] w fun e w' => e = .returned (.string (modeB m)) ∧ w' = w := by
 unfold modeIn at h
 simp only [Bool.or_eq_true, decide_eq_true_eq] at h
 have h1 := word1 w
 have h2 := word2 w
 have h3 := word3 w
 rcases h with rfl | rfl | rfl
 all_goals
  go_enter Tryz.func150, Tryz.ntmps150
  go_wp2
  go_ret
  exact ⟨rfl, rfl⟩
end Go.Proofs.YtkjgnnhpjcofiaaGreatDoor.PX.X
