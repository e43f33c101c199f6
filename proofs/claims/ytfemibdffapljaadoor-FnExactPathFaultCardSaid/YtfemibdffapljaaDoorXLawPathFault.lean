/- FnExactPathFault over bytes alone. -/
import Derived.Test.YtfemibdffapljaaDoorXPath
import Derived.Test.YtfemibdffapljaaDoorPXf3
namespace Go.Proofs.YtfemibdffapljaaDoorX
open Go Go.RowKit Go.Proofs.YtfemibdffapljaaDoorW.PrintWords Go.Proofs.YtfemibdffapljaaDoor.PX
theorem pathFault_pure (a0 : ByteArray) (h : a0.size ≤ 140737488351232) : ∃ k, laws_FnExactPathFault.f k a0 = some true := by
  refine ⟨a0.size + 41, ?_⟩
  unfold laws_FnExactPathFault.f
  by_cases c : (a0.size : Int) > 1048576
  · rw [if_pos c]
  · rw [if_neg c, spec_path a0 (by omega) _ (by omega), Option.bind_some, impl_path a0 (by omega), Option.bind_some, if_pos rfl]
end Go.Proofs.YtfemibdffapljaaDoorX
