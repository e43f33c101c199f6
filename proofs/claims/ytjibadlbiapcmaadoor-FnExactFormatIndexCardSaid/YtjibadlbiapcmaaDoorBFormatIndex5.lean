/- Texts of this claim set one behind another by wip/bundle.py: XGlob. -/
import Derived.Test.YtjibadlbiapcmaaDoorBFormatIndex4
import Derived.Lib.LaidTab
import Derived.LaidSub
import Derived.Below
import Derived.Test.YtjibadlbiapcmaaDoorRows
namespace Go.Proofs.YtjibadlbiapcmaaDoor.PX
open Go Go.RowKit Go.Lib Go.Sort
def Gt (w : World) : Prop := Lib.TabIs Tryd.prog w "internal/strconv.uint64pow10" .u64 Lib.pow10Tab
theorem Gt.named : Tryd.prog.globalNamed "internal/strconv.uint64pow10" = some 1 := by kernel_rfl
theorem Gt.heap {w W : World} (h : Gt w) (hb : W.heap[1]? = w.heap[1]?) : Gt W := by
  unfold Gt Lib.TabIs World.var? at h ⊢
  rw [Gt.named, Option.bind_some] at h ⊢
  rw [hb]
  exact h
theorem Gt.lt {w : World} (h : Gt w) : 1 < w.heap.size := by
  unfold Gt Lib.TabIs World.var? at h
  rw [Gt.named, Option.bind_some] at h
  rcases Nat.lt_or_ge 1 w.heap.size with h' | h'
  · exact h'
  · rw [Array.getElem?_eq_none h'] at h
    cases h
theorem Gt.below {w W : World} (h : Gt w) (hb : Below w.heap.size w W) : Gt W := h.heap (hb.block _ h.lt)
theorem Gt.of_laid {l : List (String × DataW Unit)} {W : World} (hf : l.filter (fun x => x.1 == "internal/strconv.uint64pow10") = [("internal/strconv.uint64pow10", Lib.tabData .u64 Lib.pow10Tab)]) (hL : laidMet Tryd.prog l W) : Gt W := by
  have h := laidMet.filter (fun x => x.1 == "internal/strconv.uint64pow10") hL
  rw [hf] at h
  exact Lib.tabIs_of_head Gt.named (t := 219) (e := 200) (n := 20) (by kernel_rfl) (by kernel_rfl) (by kernel_rfl) (by kernel_rfl) (by kernel_rfl) h
theorem grow_below (w : World) (k : Nat) (os : Array Obj) : Below w.heap.size w (grow (w.drewN k) os) := by
  refine ⟨rfl, rfl, rfl, ?_, fun i hi => ?_⟩
  · show w.heap.size ≤ (w.heap ++ os).size
    rw [Array.size_append]
    omega
  · show (w.heap ++ os)[i]? = _
    rw [Array.getElem?_append_left hi]
end Go.Proofs.YtjibadlbiapcmaaDoor.PX
