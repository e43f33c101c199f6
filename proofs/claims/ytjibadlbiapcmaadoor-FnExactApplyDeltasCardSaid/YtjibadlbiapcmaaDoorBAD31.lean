/- Texts of this claim set one behind another by wip/bundle.py: XAppF. -/
import Derived.Test.YtjibadlbiapcmaaDoorBAD24
import Derived.Test.YtjibadlbiapcmaaDoorBAD7
import Derived.Test.YtjibadlbiapcmaaDoorBAD28
import Derived.Test.YtjibadlbiapcmaaDoorBAD14
namespace Go.Proofs.YtjibadlbiapcmaaDoor.PX.X
open Go Go.RowKit Go.Lib Go.Proofs.YtjibadlbiapcmaaDoorW.PrintWords Go.Proofs.YtjibadlbiapcmaaDoor.PX
set_option linter.unusedVariables false
set_option linter.unusedSimpArgs false
theorem appI_fault (k : Nat) (A0 : Option Addr) (c0 : Nat) (l0 : List FileT) (A1 : Option Addr) (c1 : Nat) (ds : List S108) (w : World) (hr0 : Kd.C k106 w A0 l0.length l0) (hc0 : l0.length ≤ c0)
    (c : Int) (hF : impl_FilesFault.f k l0 = some c) (hc : c ≠ 0) :
    Calls Tryd.prog 35 #[.slice A0 l0.length c0, .slice A1 ds.length c1] w fun e w' => ∃ v, e = .returned (.agg #[.int .i64 c, v]) ∧ Kd.R k106 106 w' w.heap.size (fun _ => True) v [] ∧ Below w.heap.size w w' := by
  have H0 := Lib.hid hr0
  have HC0 := Lib.hid hc0
  have HF := Lib.hid hF
  have hc1 : (c != 0) = true := bne_iff_ne.mpr hc
  have hc2 : (c == 0) = false := beq_eq_false_iff_ne.mpr hc
  clear hr0 hF hc0 hc
  go_enter Tryd.func35, Tryd.ntmps35
  go_wp2_with (first
    | ((with_reducible refine gate_dst (N := 4) rfl ?_); refine box_event ?hg (N := 4) ?hd (cs := #[.int .i64 0, .slice none 0 0]) (t := 26) ?hr ?_; (case hd => rfl); (case hg => rfl); (case hr => first | (go_simp; done) | (go_simp; rfl)); intro gr hgr w1 hbox hb1; have HRB := Lib.hid hbox; have HB1 := Lib.hid hb1; have HGR := Lib.hid hgr; clear hbox hb1 hgr)
    | (go_at_call 81; (with_reducible refine (impl_FilesFault.calls k A0 c0 l0 c w1 (Kd.C_below H0.out HB1.out) HC0.out HF.out).mono ?_); rintro e w2 ⟨rfl, hb2⟩; have hrr := blk_below HRB.out hb2; have z0 : w2.cell? ⟨gr, 0, none⟩ = some (.int .i64 0) := (blk_cell hrr 0).trans rfl; have z1 : w2.cell? ⟨gr, 1, none⟩ = some (.slice none 0 0) := (blk_cell hrr 1).trans rfl; have f0 := blk_frozen hrr 0; have f1 := blk_frozen hrr 1; have R9 := Lib.hid hrr; have HB2 := Lib.hid hb2; clear hb2 hrr))
  have hgr : w.heap.size ≤ gr := Nat.le_of_eq HGR.out.symm
  refine bodyPost_ret (results_cell_row rfl _ _ gr 26 #[.int .i64 c, .slice none 0 0] (0, 0) _ rfl (blk_set (blk_set R9.out 0 (.int .i64 c)) 1 (.slice none 0 0)) Tryd.underlying26 rfl (by kernel_rfl)) rfl ?_
  exact ⟨_, rfl, Kd.R_nil _ _ _ _ _, below_set (below_set (HB1.out.trans (HB2.out.mono HB1.out.size)) hgr) hgr⟩
theorem appS_fault (k : Nat) (A0 : Option Addr) (c0 : Nat) (l0 : List FileT) (A1 : Option Addr) (c1 : Nat) (ds : List S108) (w : World) (hr0 : Kd.C k106 w A0 l0.length l0) (hc0 : l0.length ≤ c0)
    (c : Int) (hF : spec_FilesFault.f k l0 = some c) (hc : c ≠ 0) :
    Calls Tryd.prog 32 #[.slice A0 l0.length c0, .slice A1 ds.length c1] w fun e w' => ∃ v, e = .returned (.agg #[.int .i64 c, v]) ∧ Kd.R k106 106 w' w.heap.size (fun _ => True) v [] ∧ Below w.heap.size w w' := by
  have H0 := Lib.hid hr0
  have HC0 := Lib.hid hc0
  have HF := Lib.hid hF
  have hc1 : (c != 0) = true := bne_iff_ne.mpr hc
  have hc2 : (c == 0) = false := beq_eq_false_iff_ne.mpr hc
  clear hr0 hF hc0 hc
  go_enter Tryd.func32, Tryd.ntmps32
  go_wp2_with (first
    | ((with_reducible refine gate_dst (N := 4) rfl ?_); refine box_event ?hg (N := 4) ?hd (cs := #[.int .i64 0, .slice none 0 0]) (t := 26) ?hr ?_; (case hd => rfl); (case hg => rfl); (case hr => first | (go_simp; done) | (go_simp; rfl)); intro gr hgr w1 hbox hb1; have HRB := Lib.hid hbox; have HB1 := Lib.hid hb1; have HGR := Lib.hid hgr; clear hbox hb1 hgr)
    | (go_at_call 51; (with_reducible refine (spec_FilesFault.calls k A0 c0 l0 c w1 (Kd.C_below H0.out HB1.out) HC0.out HF.out).mono ?_); rintro e w2 ⟨rfl, hb2⟩; have hrr := blk_below HRB.out hb2; have z0 : w2.cell? ⟨gr, 0, none⟩ = some (.int .i64 0) := (blk_cell hrr 0).trans rfl; have z1 : w2.cell? ⟨gr, 1, none⟩ = some (.slice none 0 0) := (blk_cell hrr 1).trans rfl; have f0 := blk_frozen hrr 0; have f1 := blk_frozen hrr 1; have R9 := Lib.hid hrr; have HB2 := Lib.hid hb2; clear hb2 hrr))
  have hgr : w.heap.size ≤ gr := Nat.le_of_eq HGR.out.symm
  refine bodyPost_ret (results_cell_row rfl _ _ gr 26 #[.int .i64 c, .slice none 0 0] (0, 0) _ rfl (blk_set (blk_set R9.out 0 (.int .i64 c)) 1 (.slice none 0 0)) Tryd.underlying26 rfl (by kernel_rfl)) rfl ?_
  exact ⟨_, rfl, Kd.R_nil _ _ _ _ _, below_set (below_set (HB1.out.trans (HB2.out.mono HB1.out.size)) hgr) hgr⟩
end Go.Proofs.YtjibadlbiapcmaaDoor.PX.X
