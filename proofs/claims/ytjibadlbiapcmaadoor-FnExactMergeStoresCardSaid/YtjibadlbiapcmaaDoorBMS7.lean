/- Texts of this claim set one behind another by wip/bundle.py: XGlob. -/
import Derived.Test.YtjibadlbiapcmaaDoorBMS6
import Derived.Lib.LaidTab
import Derived.Lib.TrailingZeros
import Derived.LaidSub
import Derived.Below
import Derived.Test.YtjibadlbiapcmaaDoorRows
namespace Go.Proofs.YtjibadlbiapcmaaDoor.PX
open Go Go.RowKit Go.Lib Go.Sort
def deB : List Int := Lib.deBruijn64tab.map fun n : Nat => (n : Int)
def Gt (w : World) : Prop := Lib.TabIs Tryd.prog w "internal/strconv.uint64pow10" .u64 Lib.pow10Tab ∧ Lib.TabIs Tryd.prog w "math/bits.deBruijn64tab" .u8 deB
theorem Gt.named : Tryd.prog.globalNamed "internal/strconv.uint64pow10" = some 1 := by kernel_rfl
theorem Gt.named2 : Tryd.prog.globalNamed "math/bits.deBruijn64tab" = some 5 := by kernel_rfl
theorem tab_heap {w W : World} {n : String} {g : Nat} {k : IntKind} {zs : List Int} (hn : Tryd.prog.globalNamed n = some g) (h : Lib.TabIs Tryd.prog w n k zs) (hb : W.heap[g]? = w.heap[g]?) : Lib.TabIs Tryd.prog W n k zs := by
  unfold Lib.TabIs World.var? at h ⊢
  rw [hn, Option.bind_some] at h ⊢
  rw [hb]
  exact h
theorem tab_lt {w : World} {n : String} {g : Nat} {k : IntKind} {zs : List Int} (hn : Tryd.prog.globalNamed n = some g) (h : Lib.TabIs Tryd.prog w n k zs) : g < w.heap.size := by
  unfold Lib.TabIs World.var? at h
  rw [hn, Option.bind_some] at h
  rcases Nat.lt_or_ge g w.heap.size with h' | h'
  · exact h'
  · rw [Array.getElem?_eq_none h'] at h
    cases h
theorem Gt.heap {w W : World} (h : Gt w) (hb : W.heap[1]? = w.heap[1]?) (hb2 : W.heap[5]? = w.heap[5]? := by rfl) : Gt W :=
  ⟨tab_heap Gt.named h.1 hb, tab_heap Gt.named2 h.2 hb2⟩
theorem Gt.below {w W : World} (h : Gt w) (hb : Below w.heap.size w W) : Gt W := h.heap (hb.block _ (tab_lt Gt.named h.1)) (hb.block _ (tab_lt Gt.named2 h.2))
/-- The place of the one bit of 16. -/
theorem Gt.four {w : World} (h : Gt w) : w.cell? ⟨5, 15, none⟩ = some (.int .u8 4) := h.2.cell Gt.named2 15 (by decide)
theorem Gt.of_laid {l : List (String × DataW Unit)} {W : World} (hf : l.filter (fun x => x.1 == "internal/strconv.uint64pow10") = [("internal/strconv.uint64pow10", Lib.tabData .u64 Lib.pow10Tab)])
    (hf2 : l.filter (fun x => x.1 == "math/bits.deBruijn64tab") = [("math/bits.deBruijn64tab", Lib.tabData .u8 deB)]) (hL : laidMet Tryd.prog l W) : Gt W := by
  have h := laidMet.filter (fun x => x.1 == "internal/strconv.uint64pow10") hL
  have h2 := laidMet.filter (fun x => x.1 == "math/bits.deBruijn64tab") hL
  rw [hf] at h
  rw [hf2] at h2
  exact ⟨Lib.tabIs_of_head Gt.named (t := 219) (e := 200) (n := 20) (by kernel_rfl) (by kernel_rfl) (by kernel_rfl) (by kernel_rfl) (by kernel_rfl) h,
    Lib.tabIs_of_head Gt.named2 (t := 233) (e := 5) (n := 64) (by kernel_rfl) (by kernel_rfl) (by kernel_rfl) (by kernel_rfl) (by kernel_rfl) h2⟩
theorem grow_below (w : World) (k : Nat) (os : Array Obj) : Below w.heap.size w (grow (w.drewN k) os) := by
  refine ⟨rfl, rfl, rfl, ?_, fun i hi => ?_⟩
  · show w.heap.size ≤ (w.heap ++ os).size
    rw [Array.size_append]
    omega
  · show (w.heap ++ os)[i]? = _
    rw [Array.getElem?_append_left hi]
end Go.Proofs.YtjibadlbiapcmaaDoor.PX
