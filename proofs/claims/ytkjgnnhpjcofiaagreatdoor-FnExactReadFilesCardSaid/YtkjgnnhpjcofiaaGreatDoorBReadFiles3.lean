/- Texts of this claim set one behind another by wip/bundle.py: XClashPure. -/
import Derived.Lib.SlicesCompact
import Derived.WalkKit
import Derived.Sort.Walk0
namespace Go.Proofs.YtkjgnnhpjcofiaaGreatDoor.PX.X
open Go
set_option linter.unusedVariables false
def lessB (a b : ByteArray) : Bool := Op.bytesLess a.data.toList b.data.toList
theorem lessB_eq (a b : ByteArray) : lessB a b = decide (a.data.toList < b.data.toList) := Proofs.bytesLess_eq _ _
theorem lessB_irrefl (a : ByteArray) : lessB a a = false := by
 rw [lessB_eq]
 exact decide_eq_false (List.lt_irrefl _)
theorem lessB_trans {a b c : ByteArray} (h1 : lessB a b = true) (h2 : lessB b c = true) : lessB a c = true := by
 rw [lessB_eq, decide_eq_true_eq] at *
 exact List.lt_trans h1 h2
abbrev dataL (x : ByteArray) : List UInt8 := x.data.toList
theorem dataL_inj {a b : ByteArray} (h : dataL a = dataL b) : a = b := by
 obtain ⟨⟨a⟩⟩ := a
 obtain ⟨⟨b⟩⟩ := b
 have : a = b := h
 rw [this]
def backL (l : List UInt8) : ByteArray := ⟨l.toArray⟩
theorem back_data (l : List ByteArray) : (l.map dataL).map backL = l := by
 rw [List.map_map]
 conv => rhs; rw [← List.map_id l]
 apply List.map_congr_left
 intro x _
 rfl
end Go.Proofs.YtkjgnnhpjcofiaaGreatDoor.PX.X
