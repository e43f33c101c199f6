/- Texts of this claim set one behind another by wip/bundle.py: XGlob. -/
import Derived.Test.YtpnoghcdfbmpoaaGreatDoorBLT8
import Derived.Lib.LaidTab
import Derived.Lib.TrailingZeros
import Derived.LaidSub
import Derived.Below
import Derived.Test.YtpnoghcdfbmpoaaGreatDoorRows
import Derived.Stop.LaidErr
namespace Go.Proofs.YtpnoghcdfbmpoaaGreatDoor.PX
open Go Go.RowKit Go.Lib Go.Sort
def deB : List Int := Lib.deBruijn64tab.map fun n : Nat => (n : Int)
def Sen (w : World) (g : Nat) : Prop := ∃ te pe, w.cell? ⟨g, 0, none⟩ = some (.iface te pe)
theorem Sen.below {w W : World} {g : Nat} (h : Sen w g) (hb : Below w.heap.size w W) : Sen W g :=
 let ⟨te, pe, hc⟩ := h
 ⟨te, pe, (hb.cell (World.block_lt_of_cell? w ⟨g, 0, none⟩ hc)).trans hc⟩
def Sn (w : World) : Prop := Sen w 2 ∧ Sen w 3
theorem Sn.below {w W : World} (h : Sn w) (hb : Below w.heap.size w W) : Sn W := ⟨h.1.below hb, h.2.below hb⟩
def Gt (w : World) : Prop := Lib.TabIs Tryz.prog w "internal/strconv.uint64pow10" .u64 Lib.pow10Tab ∧ Lib.TabIs Tryz.prog w "math/bits.deBruijn64tab" .u8 deB ∧ Sn w
theorem Gt.named : Tryz.prog.globalNamed "internal/strconv.uint64pow10" = some 1 := by kernel_rfl
theorem Gt.named2 : Tryz.prog.globalNamed "math/bits.deBruijn64tab" = some 5 := by kernel_rfl
theorem tab_heap {w W : World} {n : String} {g : Nat} {k : IntKind} {zs : List Int} (hn : Tryz.prog.globalNamed n = some g) (h : Lib.TabIs Tryz.prog w n k zs) (hb : W.heap[g]? = w.heap[g]?) : Lib.TabIs Tryz.prog W n k zs := by
 unfold Lib.TabIs World.var? at h ⊢
 rw [hn, Option.bind_some] at h ⊢
 rw [hb]
 exact h
theorem tab_lt {w : World} {n : String} {g : Nat} {k : IntKind} {zs : List Int} (hn : Tryz.prog.globalNamed n = some g) (h : Lib.TabIs Tryz.prog w n k zs) : g < w.heap.size := by
 unfold Lib.TabIs World.var? at h
 rw [hn, Option.bind_some] at h
 rcases Nat.lt_or_ge g w.heap.size with h' | h'
 · exact h'
 · rw [Array.getElem?_eq_none h'] at h
   cases h
theorem Gt.below {w W : World} (h : Gt w) (hb : Below w.heap.size w W) : Gt W := ⟨tab_heap Gt.named h.1 (hb.block _ (tab_lt Gt.named h.1)), tab_heap Gt.named2 h.2.1 (hb.block _ (tab_lt Gt.named2 h.2.1)), h.2.2.below hb⟩
theorem Gt.four {w : World} (h : Gt w) : w.cell? ⟨5, 15, none⟩ = some (.int .u8 4) := h.2.1.cell Gt.named2 15 (by decide)
theorem err_row (u : TypeId) (h : Tryz.prog.typeName? 3 u = some "*errors.errorString") : u = 201 :=
 typeName_ptr_named (nm := "errors.errorString") (by rw [show "*" ++ "errors.errorString" = "*errors.errorString" from by decide]; kernel_rfl) (by kernel_rfl) (by decide) u (by rw [show "*" ++ "errors.errorString" = "*errors.errorString" from by decide]; exact h)
theorem sen_of {n : String} {text : List UInt8} {r : List (String × DataW Unit)} {W : World} {g : Nat} (h : laidMet Tryz.prog ((n, .iface "*errors.errorString" (.ptr (.agg [.lit (.string text)]))) :: r) W) (hg : Tryz.prog.globalNamed n = some g) (ht : (Tryz.prog.globals[g]?).map (·.type) = some 81) : Sen W g := by
 obtain ⟨a, s, hv, _⟩ := laid_sentinel h hg ht Tryz.underlying81 err_row Tryz.underlying201 Tryz.underlying203 rfl rfl Tryz.underlying9 (by kernel_rfl) (by kernel_rfl)
 exact ⟨_, _, by simpa using World.var?_cell hg hv 0⟩
theorem Gt.of_laid {l : List (String × DataW Unit)} {W : World} (hf : l.filter (fun x => x.1 == "internal/strconv.uint64pow10") = [("internal/strconv.uint64pow10", Lib.tabData .u64 Lib.pow10Tab)])
 (hf2 : l.filter (fun x => x.1 == "math/bits.deBruijn64tab") = [("math/bits.deBruijn64tab", Lib.tabData .u8 deB)])
 (hf3 : l.filter (fun x => x.1 == "strconv.ErrSyntax") = [("strconv.ErrSyntax", .iface "*errors.errorString" (.ptr (.agg [.lit (.string [105, 110, 118, 97, 108, 105, 100, 32, 115, 121, 110, 116, 97, 120])])))])
 (hf4 : l.filter (fun x => x.1 == "strconv.ErrRange") = [("strconv.ErrRange", .iface "*errors.errorString" (.ptr (.agg [.lit (.string [118, 97, 108, 117, 101, 32, 111, 117, 116, 32, 111, 102, 32, 114, 97, 110, 103, 101])])))])
 (hL : laidMet Tryz.prog l W) : Gt W := by
 have h := laidMet.filter (fun x => x.1 == "internal/strconv.uint64pow10") hL
 have h2 := laidMet.filter (fun x => x.1 == "math/bits.deBruijn64tab") hL
 rw [hf] at h
 rw [hf2] at h2
 have h3 := laidMet.filter (fun x => x.1 == "strconv.ErrSyntax") hL
 have h4 := laidMet.filter (fun x => x.1 == "strconv.ErrRange") hL
 rw [hf3] at h3
 rw [hf4] at h4
 refine ⟨Lib.tabIs_of_head Gt.named (t := 185) (e := 137) (n := 20) (by kernel_rfl) (by kernel_rfl) (by kernel_rfl) (by kernel_rfl) (by kernel_rfl) h,
  Lib.tabIs_of_head Gt.named2 (t := 212) (e := 5) (n := 64) (by kernel_rfl) (by kernel_rfl) (by kernel_rfl) (by kernel_rfl) (by kernel_rfl) h2, ?_⟩
 exact ⟨sen_of h3 (by kernel_rfl) (by kernel_rfl), sen_of h4 (by kernel_rfl) (by kernel_rfl)⟩
theorem grow_below (w : World) (k : Nat) (os : Array Obj) : Below w.heap.size w (grow (w.drewN k) os) := by
 refine ⟨rfl, rfl, rfl, ?_, fun i hi => ?_⟩
 · show w.heap.size ≤ (w.heap ++ os).size
   rw [Array.size_append]
   omega
 · show (w.heap ++ os)[i]? = _
   rw [Array.getElem?_append_left hi]
end Go.Proofs.YtpnoghcdfbmpoaaGreatDoor.PX
