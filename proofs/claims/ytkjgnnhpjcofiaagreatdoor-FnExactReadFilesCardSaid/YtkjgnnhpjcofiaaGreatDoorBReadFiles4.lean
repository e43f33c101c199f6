/- Texts of this claim set one behind another by wip/bundle.py: XStrLe. -/
import Derived.Test.YtkjgnnhpjcofiaaGreatDoorProg
import Derived.WalkKit
import Derived.Sort.Walk0
namespace Go.Proofs.YtkjgnnhpjcofiaaGreatDoor.PX.X
open Go
theorem less_flip (x y : List UInt8) : (Op.bytesLess x y || x == y) = !(Op.bytesLess y x) := by
 rw [Proofs.bytesLess_eq, Proofs.bytesLess_eq]
 by_cases h : x < y
 · simp [h, List.lt_asymm h]
 · by_cases e : x = y
   · subst e
     simp [List.lt_irrefl]
   · have : y < x := by
      by_cases h2 : y < x
      · exact h2
      · exact absurd (List.le_antisymm (List.not_lt.mp h2) (List.not_lt.mp h)) e
     simp [h, e, this]
@[go_sem] theorem binOp_str_leq (t : TypeId) (a b : ByteArray) : binOp .leq t (.string a) (.string b) = pure (.bool (!(Op.bytesLess b.toList a.toList))) := by
 rw [← less_flip]
 simp [binOp, Op.stringOp]
@[go_sem] theorem binOp_str_gtr (t : TypeId) (a b : ByteArray) : binOp .gtr t (.string a) (.string b) = pure (.bool (Op.bytesLess b.toList a.toList)) := by
 have : binOp .gtr t (.string a) (.string b) = pure (.bool (!(Op.bytesLess a.toList b.toList || a.toList == b.toList))) := by simp [binOp, Op.stringOp]
 rw [this, less_flip, Bool.not_not]
end Go.Proofs.YtkjgnnhpjcofiaaGreatDoor.PX.X
