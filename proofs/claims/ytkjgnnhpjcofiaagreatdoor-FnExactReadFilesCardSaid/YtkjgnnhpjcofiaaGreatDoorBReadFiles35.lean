/- Texts of this claim set one behind another by wip/bundle.py: XPutW. -/
import Derived.Test.YtkjgnnhpjcofiaaGreatDoorBReadFiles28
import Derived.Test.YtkjgnnhpjcofiaaGreatDoorBReadFiles14
import Derived.Test.YtkjgnnhpjcofiaaGreatDoorBReadFiles25
import Derived.Test.YtkjgnnhpjcofiaaGreatDoorBReadFiles9
import Derived.Test.YtkjgnnhpjcofiaaGreatDoorBReadFiles5
import Derived.Deep.RegionHeld3
namespace Go.Proofs.YtkjgnnhpjcofiaaGreatDoor.PX.X
open Go Go.RowKit Go.Lib Go.Proofs.YtkjgnnhpjcofiaaGreatDoorW.PrintWords Go.Proofs.YtkjgnnhpjcofiaaGreatDoor.PX
set_option linter.unusedVariables false
theorem toList_data (a : ByteArray) : a.toList = a.data.toList := YtkjgnnhpjcofiaaGreatDoorX.toList_eq a
theorem grown_at {W w1 : World} {row : Option Nat} (hg : W.grownBy w1 row) (n : Nat) (hr : row = some n) (m : Nat) (hm : m < W.heap.size) (hne : m ≠ n) : w1.heap[m]? = W.heap[m]? :=
 hg.block m hm (by rw [hr]; exact fun e => hne (Option.some.inj e))
theorem size_two (W : World) (a b : Obj) : ((W.alloc a).alloc b).drew.heap.size = W.heap.size + 2 := by
 show ((W.heap.push a).push b).size = _
 rw [Array.size_push, Array.size_push]
theorem blk_new1 (W : World) (a b : Obj) : ((W.alloc a).alloc b).heap[W.heap.size + 1]? = some b := by
 have h := blk_new (W.alloc a) b
 have e : (W.alloc a).heap.size = W.heap.size + 1 := Array.size_push _
 rw [e] at h
 exact h
end Go.Proofs.YtkjgnnhpjcofiaaGreatDoor.PX.X
