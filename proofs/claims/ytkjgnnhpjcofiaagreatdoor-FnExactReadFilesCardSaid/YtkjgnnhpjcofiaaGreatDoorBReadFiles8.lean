/- Texts of this claim set one behind another by wip/bundle.py: XGlob. -/
import Derived.Test.YtkjgnnhpjcofiaaGreatDoorBReadFiles7
import Derived.Lib.LaidTab
import Derived.Lib.TrailingZeros
import Derived.LaidSub
import Derived.Below
import Derived.Test.YtkjgnnhpjcofiaaGreatDoorRows
namespace Go.Proofs.YtkjgnnhpjcofiaaGreatDoor.PX
open Go Go.RowKit Go.Lib Go.Sort
def deB : List Int := Lib.deBruijn64tab.map fun n : Nat => (n : Int)
def Sn (_ : World) : Prop := True
theorem Sn.below {w W : World} (h : Sn w) (_ : Below w.heap.size w W) : Sn W := h
def Gt (w : World) : Prop := Lib.TabIs Tryz.prog w "internal/strconv.uint64pow10" .u64 Lib.pow10Tab ∧ Lib.TabIs Tryz.prog w "math/bits.deBruijn64tab" .u8 deB ∧ Sn w
theorem Gt.named : Tryz.prog.globalNamed "internal/strconv.uint64pow10" = some 1 := by kernel_rfl
theorem Gt.named2 : Tryz.prog.globalNamed "math/bits.deBruijn64tab" = some 5 := by kernel_rfl
theorem tab_heap {w W : World} {n : String} {g : Nat} {k : IntKind} {zs : List Int} (hn : Tryz.prog.globalNamed n = some g) (h : Lib.TabIs Tryz.prog w n k zs) (hb : W.heap[g]? = w.heap[g]?) : Lib.TabIs Tryz.prog W n k zs := by
 unfold Lib.TabIs World.var? at h ⊢
 rw [hn, Option.bind_some] at h ⊢
 rw [hb]
 exact h
theorem tab_lt {w : World} {n : String} {g : Nat} {k : IntKind} {zs : List Int} (hn : Tryz.prog.globalNamed n = some g) (h : Lib.TabIs Tryz.prog w n k zs) : g < w.heap.size := by
 unfold Lib.TabIs World.var? at h
 rw [hn, Option.bind_some] at h
 rcases Nat.lt_or_ge g w.heap.size with h' | h'
 · exact h'
 · rw [Array.getElem?_eq_none h'] at h
   cases h
theorem Gt.below {w W : World} (h : Gt w) (hb : Below w.heap.size w W) : Gt W := ⟨tab_heap Gt.named h.1 (hb.block _ (tab_lt Gt.named h.1)), tab_heap Gt.named2 h.2.1 (hb.block _ (tab_lt Gt.named2 h.2.1)), h.2.2.below hb⟩
theorem Gt.four {w : World} (h : Gt w) : w.cell? ⟨5, 15, none⟩ = some (.int .u8 4) := h.2.1.cell Gt.named2 15 (by decide)
theorem Gt.of_laid {l : List (String × DataW Unit)} {W : World} (hf : l.filter (fun x => x.1 == "internal/strconv.uint64pow10") = [("internal/strconv.uint64pow10", Lib.tabData .u64 Lib.pow10Tab)])
 (hf2 : l.filter (fun x => x.1 == "math/bits.deBruijn64tab") = [("math/bits.deBruijn64tab", Lib.tabData .u8 deB)])
 (hL : laidMet Tryz.prog l W) : Gt W := by
 have h := laidMet.filter (fun x => x.1 == "internal/strconv.uint64pow10") hL
 have h2 := laidMet.filter (fun x => x.1 == "math/bits.deBruijn64tab") hL
 rw [hf] at h
 rw [hf2] at h2
 refine ⟨Lib.tabIs_of_head Gt.named (t := 261) (e := 202) (n := 20) (by kernel_rfl) (by kernel_rfl) (by kernel_rfl) (by kernel_rfl) (by kernel_rfl) h,
  Lib.tabIs_of_head Gt.named2 (t := 289) (e := 5) (n := 64) (by kernel_rfl) (by kernel_rfl) (by kernel_rfl) (by kernel_rfl) (by kernel_rfl) h2, ?_⟩
 exact trivial
end Go.Proofs.YtkjgnnhpjcofiaaGreatDoor.PX
