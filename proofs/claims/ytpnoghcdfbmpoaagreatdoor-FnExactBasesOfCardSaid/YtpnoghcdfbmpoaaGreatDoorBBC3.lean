/- Texts of this claim set one behind another by wip/bundle.py: XShelfD. -/
import Derived.Shelf.SlicesE.DeleteFunc
import Derived.Test.YtpnoghcdfbmpoaaGreatDoorProg
namespace Go.Proofs
open Go.Shelf
def Tryz.laysDelStr_ren : Go.Shelf.Ren := ⟨fun | 10 => 69 | 6 => 100 | n => n, fun | 22 => 29 | 23 => 9 | 25 => 100 | 3 => 3 | 4 => 4 | 0 => 0 | n => n, fun | n => n⟩
theorem Tryz.laysDelStr : Go.Proofs.SlLaysH.n10 Tryz.prog Tryz.laysDelStr_ren := {
 mixed := by kernel_rfl
 f6 := ⟨Tryz.f100.name, by decide, Tryz.func100.trans (congrArg some (by kernel_rfl))⟩
 f10 := ⟨Tryz.f69.name, by decide, Tryz.func69.trans (congrArg some (by kernel_rfl))⟩
 t0 := Tryz.underlying0
 a0 := Tryz.isAgg0
 z0 := Tryz.sizeOf0
 v0 := Tryz.zeroValue0
 t3 := Tryz.underlying3
 a3 := Tryz.isAgg3
 z3 := Tryz.sizeOf3
 v3 := Tryz.zeroValue3
 t4 := Tryz.underlying4
 a4 := Tryz.isAgg4
 z4 := Tryz.sizeOf4
 v4 := Tryz.zeroValue4
 t22 := Tryz.underlying29
 a22 := Tryz.isAgg29
 z22 := Tryz.sizeOf29
 v22 := Tryz.zeroValue29
 a23 := Tryz.isAgg9
 z23 := Tryz.sizeOf9
 t25 := Tryz.underlying100
 a25 := Tryz.isAgg100
 z25 := Tryz.sizeOf100
 v25 := Tryz.zeroValue100 }
end Go.Proofs
