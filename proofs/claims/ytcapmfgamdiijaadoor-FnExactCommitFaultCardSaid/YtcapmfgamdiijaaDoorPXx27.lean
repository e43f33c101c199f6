-- TOLD BY wip/xprint.py of this repo (a program over the kit's printer): a contract of this seat's functions.
import Derived.Test.YtcapmfgamdiijaaDoorPXx0
import Derived.Test.YtcapmfgamdiijaaDoorXShelf
namespace Go.Proofs.YtcapmfgamdiijaaDoor.PX
open Go.RowKit Go.Proofs.YtcapmfgamdiijaaDoorW.PrintWords Go.Proofs.YtcapmfgamdiijaaDoorW.PrintLast Go.Proofs.YtcapmfgamdiijaaDoorW.PrintMore
attribute [local go_sem] max2_int min2_int max_two min_two max_three min_three max_four min_four   -- for this text's walks alone
set_option linter.unusedVariables false
set_option linter.unusedSimpArgs false

/-! ### strings_IndexByte: function 166 -/
def strings_IndexByte.f (a0 : ByteArray) (a1 : Int) : Option (Int) := some (Lib.indexByte a0.data.toList a1.toNat.toUInt8)
theorem strings_IndexByte.calls (a0 : ByteArray) (a1 : Int) (r : Int) (w : World) (h : strings_IndexByte.f a0 a1 = some r) :
    Calls Tryd.prog 166 #[.string a0, .int .u8 a1] w fun e w' => e = .returned (.int .i64 r) ∧ Drawn0 w w' := by
  obtain rfl := Option.some.inj h
  exact (Any.strings_IndexByte Tryd.lays137 a0 a1 w).mono fun e w' ⟨he, hw⟩ => ⟨he, hw ▸ Drawn0.refl _⟩

end Go.Proofs.YtcapmfgamdiijaaDoor.PX
