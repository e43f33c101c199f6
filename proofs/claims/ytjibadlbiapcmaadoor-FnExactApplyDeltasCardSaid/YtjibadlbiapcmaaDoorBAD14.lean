/- Texts of this claim set one behind another by wip/bundle.py: PXf51. -/
import Derived.Test.YtjibadlbiapcmaaDoorBAD3
import Derived.Test.YtjibadlbiapcmaaDoorBAD12
import Derived.Test.YtjibadlbiapcmaaDoorBAD13
namespace Go.Proofs.YtjibadlbiapcmaaDoor.PX
open Go.RowKit Go.Proofs.YtjibadlbiapcmaaDoorW.PrintWords Go.Proofs.YtjibadlbiapcmaaDoorW.PrintLast Go.Proofs.YtjibadlbiapcmaaDoorW.PrintMore
attribute [local go_sem] max2_int min2_int max_two min_two max_three min_three max_four min_four   -- for this text's walks alone
set_option linter.unusedVariables false
set_option linter.unusedSimpArgs false

/-! ### spec_FilesFault: function 51 -/
mutual
def spec_FilesFault.l0 : Nat → List (S106) → Int → Option (Int)
 | 0, _, _ => none
 | k + 1, x0, x3 => if x3 < (x0.length : Int) then (if 0 ≤ x3 then ((spec_PathFault.f k ((rd_T106 x0 x3).f0)).bind fun t154 => (if t154 = 0 then (if ((rd_T106 x0 x3).f1) = 1 then (spec_FilesFault.j1 k x0 x3 false ((rd_T106 x0 x3).f0) ((rd_T106 x0 x3).f1) ((rd_T106 x0 x3).f2)) else (spec_FilesFault.j1 k x0 x3 (((rd_T106 x0 x3).f1) != 2) ((rd_T106 x0 x3).f0) ((rd_T106 x0 x3).f1) ((rd_T106 x0 x3).f2))) else (some t154))) else (none)) else (spec_FilesFault.l1 k x0 0)
def spec_FilesFault.j1 : Nat → List (S106) → Int → Bool → ByteArray → Int → ByteArray → Option (Int)
 | 0, _, _, _, _, _, _ => none
 | k + 1, x0, x3, x34, x154000, x154001, x154002 => if x34 = true then (some 3) else ((spec_l6Is.f k x154002 1).bind fun t155 => (if t155 = true then (if x3 > 0 then (if 0 ≤ (wrap64 (x3 - 1)) then (if (wrap64 (x3 - 1)) < (x0.length : Int) then (if ((Op.bytesLess (((rd_T106 x0 (wrap64 (x3 - 1))).f0).toList) x154000.toList) = true) then (spec_FilesFault.l0 k x0 (wrap64 (x3 + 1))) else (some 1)) else (none)) else (none)) else (spec_FilesFault.l0 k x0 (wrap64 (x3 + 1)))) else (some 1)))
def spec_FilesFault.l1 : Nat → List (S106) → Int → Option (Int)
 | 0, _, _ => none
 | k + 1, x0, x6 => if x6 < (x0.length : Int) then (spec_FilesFault.l2 k x0 x6 0) else (some 0)
def spec_FilesFault.l2 : Nat → List (S106) → Int → Int → Option (Int)
 | 0, _, _, _ => none
 | k + 1, x0, x6, x7 => if x7 < (x0.length : Int) then (if 0 ≤ x6 then (if x6 < (x0.length : Int) then (if 0 ≤ x7 then ((spec_InDir.f ((rd_T106 x0 x6).f0) ((rd_T106 x0 x7).f0)).bind fun t159 => (if t159 = true then (some 7) else (spec_FilesFault.l2 k x0 x6 (wrap64 (x7 + 1))))) else (none)) else (none)) else (none)) else (spec_FilesFault.l1 k x0 (wrap64 (x6 + 1)))
end
def spec_FilesFault.f (k : Nat) (l0 : List (S106)) : Option (Int) := if (l0.length : Int) > 60 then (some 2) else (spec_FilesFault.l0 k l0 0)
theorem spec_FilesFault.mono_l : ∀ k, (∀ y0 y1, LeO (spec_FilesFault.l0 k y0 y1) (spec_FilesFault.l0 (k + 1) y0 y1)) ∧ (∀ y0 y1 y2 y3 y4 y5, LeO (spec_FilesFault.j1 k y0 y1 y2 y3 y4 y5) (spec_FilesFault.j1 (k + 1) y0 y1 y2 y3 y4 y5)) ∧ (∀ y0 y1, LeO (spec_FilesFault.l1 k y0 y1) (spec_FilesFault.l1 (k + 1) y0 y1)) ∧ (∀ y0 y1 y2, LeO (spec_FilesFault.l2 k y0 y1 y2) (spec_FilesFault.l2 (k + 1) y0 y1 y2))
 | 0 => ⟨fun _ _ r h => by simp [spec_FilesFault.l0] at h, fun _ _ _ _ _ _ r h => by simp [spec_FilesFault.j1] at h, fun _ _ r h => by simp [spec_FilesFault.l1] at h, fun _ _ _ r h => by simp [spec_FilesFault.l2] at h⟩
 | k + 1 => by
  obtain ⟨ih0, ih1, ih2, ih3⟩ := spec_FilesFault.mono_l k
  refine ⟨?_, ?_, ?_, ?_⟩
  ·
   intro y0 y1
   unfold spec_FilesFault.l0
   repeat' first
   | (with_reducible exact ih0 _ _)
   | (with_reducible exact ih1 _ _ _ _ _ _)
   | (with_reducible exact ih2 _ _)
   | (with_reducible exact ih3 _ _ _)
   | (with_reducible exact spec_PathFault.mono _ _)
   | (with_reducible exact spec_l6Is.mono _ _ _)
   | (with_reducible exact LeO.refl _)
   | (with_reducible exact LeO.none _)
   | (with_reducible refine LeO.ite ?_ ?_)
   | (with_reducible refine LeO.bind ?_ (fun _ => ?_))
   | exact ih0 _ _
   | exact ih1 _ _ _ _ _ _
   | exact ih2 _ _
   | exact ih3 _ _ _
   | exact spec_PathFault.mono _ _
   | exact spec_l6Is.mono _ _ _
   | exact LeO.none _
   | refine LeO.ite ?_ ?_
   | refine LeO.bind ?_ (fun _ => ?_)
  ·
   intro y0 y1 y2 y3 y4 y5
   unfold spec_FilesFault.j1
   repeat' first
   | (with_reducible exact ih0 _ _)
   | (with_reducible exact ih1 _ _ _ _ _ _)
   | (with_reducible exact ih2 _ _)
   | (with_reducible exact ih3 _ _ _)
   | (with_reducible exact spec_PathFault.mono _ _)
   | (with_reducible exact spec_l6Is.mono _ _ _)
   | (with_reducible exact LeO.refl _)
   | (with_reducible exact LeO.none _)
   | (with_reducible refine LeO.ite ?_ ?_)
   | (with_reducible refine LeO.bind ?_ (fun _ => ?_))
   | exact ih0 _ _
   | exact ih1 _ _ _ _ _ _
   | exact ih2 _ _
   | exact ih3 _ _ _
   | exact spec_PathFault.mono _ _
   | exact spec_l6Is.mono _ _ _
   | exact LeO.none _
   | refine LeO.ite ?_ ?_
   | refine LeO.bind ?_ (fun _ => ?_)
  ·
   intro y0 y1
   unfold spec_FilesFault.l1
   repeat' first
   | (with_reducible exact ih0 _ _)
   | (with_reducible exact ih1 _ _ _ _ _ _)
   | (with_reducible exact ih2 _ _)
   | (with_reducible exact ih3 _ _ _)
   | (with_reducible exact spec_PathFault.mono _ _)
   | (with_reducible exact spec_l6Is.mono _ _ _)
   | (with_reducible exact LeO.refl _)
   | (with_reducible exact LeO.none _)
   | (with_reducible refine LeO.ite ?_ ?_)
   | (with_reducible refine LeO.bind ?_ (fun _ => ?_))
   | exact ih0 _ _
   | exact ih1 _ _ _ _ _ _
   | exact ih2 _ _
   | exact ih3 _ _ _
   | exact spec_PathFault.mono _ _
   | exact spec_l6Is.mono _ _ _
   | exact LeO.none _
   | refine LeO.ite ?_ ?_
   | refine LeO.bind ?_ (fun _ => ?_)
  ·
   intro y0 y1 y2
   unfold spec_FilesFault.l2
   repeat' first
   | (with_reducible exact ih0 _ _)
   | (with_reducible exact ih1 _ _ _ _ _ _)
   | (with_reducible exact ih2 _ _)
   | (with_reducible exact ih3 _ _ _)
   | (with_reducible exact spec_PathFault.mono _ _)
   | (with_reducible exact spec_l6Is.mono _ _ _)
   | (with_reducible exact LeO.refl _)
   | (with_reducible exact LeO.none _)
   | (with_reducible refine LeO.ite ?_ ?_)
   | (with_reducible refine LeO.bind ?_ (fun _ => ?_))
   | exact ih0 _ _
   | exact ih1 _ _ _ _ _ _
   | exact ih2 _ _
   | exact ih3 _ _ _
   | exact spec_PathFault.mono _ _
   | exact spec_l6Is.mono _ _ _
   | exact LeO.none _
   | refine LeO.ite ?_ ?_
   | refine LeO.bind ?_ (fun _ => ?_)
theorem spec_FilesFault.mono : ∀ a0 k, LeO (spec_FilesFault.f k a0) (spec_FilesFault.f (k + 1) a0) := by
 intro a0 k
 obtain ⟨ih0, ih1, ih2, ih3⟩ := spec_FilesFault.mono_l k
 unfold spec_FilesFault.f
 repeat' first
   | (with_reducible exact ih0 _ _)
   | (with_reducible exact ih1 _ _ _ _ _ _)
   | (with_reducible exact ih2 _ _)
   | (with_reducible exact ih3 _ _ _)
   | (with_reducible exact spec_PathFault.mono _ _)
   | (with_reducible exact spec_l6Is.mono _ _ _)
   | (with_reducible exact LeO.refl _)
   | (with_reducible exact LeO.none _)
   | (with_reducible refine LeO.ite ?_ ?_)
   | (with_reducible refine LeO.bind ?_ (fun _ => ?_))
   | exact ih0 _ _
   | exact ih1 _ _ _ _ _ _
   | exact ih2 _ _
   | exact ih3 _ _ _
   | exact spec_PathFault.mono _ _
   | exact spec_l6Is.mono _ _ _
   | exact LeO.none _
   | refine LeO.ite ?_ ?_
   | refine LeO.bind ?_ (fun _ => ?_)
set_option maxHeartbeats 8000000 in
set_option maxRecDepth 100000 in
theorem spec_FilesFault.calls (k : Nat) (A0 : Option Addr) (c0 : Nat) (l0 : List (S106)) (r : Int) (w : World) (hr0 : Kd.C k106 w A0 l0.length l0) (hc0 : l0.length ≤ c0) (h : spec_FilesFault.f k l0 = some r) :
  Calls Tryd.prog 51 #[.slice A0 l0.length c0] w fun e w' => e = .returned (.int .i64 r) ∧ Below w.heap.size w w' := by
 have hu106 := Tryd.underlying106
 have HR0 := zK hr0
 have HC0 := zK hc0
 clear hr0 hc0
 have HB := zK (Below.refl w.heap.size w)
 have H : (if (l0.length : Int) > 60 then (some 2) else (spec_FilesFault.l0 k l0 0)) = some r := h
 clear h
 by_cases c2 : (l0.length : Int) > 60
 ·
  rw [if_pos c2] at H
  have c2b0 : decide (60 < (l0.length : Int)) = true := decide_eq_true c2
  have c2b1 : decide (60 < l0.length) = true := decide_eq_true (by omega)
  clear c2
  obtain rfl := Option.some.inj H
  go_enter Tryd.func51, Tryd.ntmps51
  go_wp2
  repeat (go_quiet (fail); try go_wp2)
  go_ret
  exact ⟨by first | rfl | (simp [errW_none, errW_some] <;> rfl) | (simp [*, errW_none, errW_some] <;> rfl), by repeat (first | (with_reducible first | exact HB.out | apply zA | apply zN | apply zD) | exact HB.out)⟩
 ·
  rw [if_neg c2] at H
  have c2b0 : decide (60 < (l0.length : Int)) = false := decide_eq_false c2
  have c2b1 : decide (60 < l0.length) = false := decide_eq_false (by omega)
  clear c2
  have H' := zK H
  clear H
  go_enter Tryd.func51, Tryd.ntmps51
  go_wp2
  repeat (go_quiet (fail); try go_wp2)
  go_loopg [3] k (fun kq v3 w' => ∃ (x3_1 : Int), v3 = .int .i64 x3_1 ∧ Aside0 (spec_FilesFault.l0 kq l0 x3_1 = some r) ∧ Aside0 (kq ≤ k) ∧ Aside0 (Below w.heap.size w w'))
  case atStart => exact ⟨(0), (by first | rfl | (simp; done) | (simp [*]; done)), H', ⟨Nat.le_refl _⟩, ⟨by repeat (first | (with_reducible first | exact HB.out | apply zA | apply zN | apply zD) | exact HB.out)⟩⟩
  case round =>
   clear H'
   try clear c2
   try clear c2b0
   try clear c2b1
   try clear p2
   obtain ⟨x3_1, rfl, HA, HK1, HB⟩ := hrel
   cases gk with
   | zero => exact absurd HA.out (by simp [spec_FilesFault.l0])
   | succ k1 =>
    have H := HA.out
    clear HA
    simp only [spec_FilesFault.l0] at H
    by_cases c3 : x3_1 < (l0.length : Int)
    ·
     rw [if_pos c3] at H
     have c3b0 : decide (x3_1 < (l0.length : Int)) = true := decide_eq_true c3
     clear c3
     by_cases c4 : 0 ≤ x3_1
     ·
      rw [if_pos c4] at H
      have c4b0 : decide (0 ≤ x3_1) = true := decide_eq_true c4
      clear c4
      replace H := Option.bind_eq_some_iff.mp H
      obtain ⟨t154, A50, H⟩ := H
      replace H : (if t154 = 0 then (if ((rd_T106 l0 x3_1).f1) = 1 then (spec_FilesFault.j1 k1 l0 x3_1 false ((rd_T106 l0 x3_1).f0) ((rd_T106 l0 x3_1).f1) ((rd_T106 l0 x3_1).f2)) else (spec_FilesFault.j1 k1 l0 x3_1 (((rd_T106 l0 x3_1).f1) != 2) ((rd_T106 l0 x3_1).f0) ((rd_T106 l0 x3_1).f1) ((rd_T106 l0 x3_1).f2))) else (some t154)) = some r := H
      have A5 := zK A50
      clear A50
      by_cases c6 : t154 = 0
      ·
       rw [if_pos c6] at H
       have c6b0 : (t154 == 0) = true := beq_iff_eq.mpr c6
       have c6b1 : (t154 != 0) = false := bne_eq_false_iff_eq.mpr c6
       clear c6
       have HC7 := zK H
       clear H
       have p152 : 0 ≤ (x3_1 : Int) := zX (by first | (with_reducible assumption) | assumption)
       have q152 : x3_1 < (l0.length : Int) := zX (by first | (with_reducible assumption) | assumption)
       obtain ⟨ad152, e152, hx152_0, hx152_1, hx152_2⟩ := at_T106 HR0.out x3_1 p152 q152
       cases e152
       replace hx152_0 := (HB.out.cell (zL w _ hx152_0)).trans hx152_0
       replace hx152_1 := (HB.out.cell (zL w _ hx152_1)).trans hx152_1
       replace hx152_2 := (HB.out.cell (zL w _ hx152_2)).trans hx152_2
       replace p152 := eq_true p152
       replace q152 := eq_true q152
       go_upto_region 10 with (first | ((with_reducible refine gate_dst (N := 4) rfl ?_); refine box_event ?hg (N := 4) ?hd (cs := #[.string (⟨#[]⟩ : ByteArray), .int .i64 0, .string (⟨#[]⟩ : ByteArray)]) (t := 106) ?hr ?_; (case hd => rfl); (case hg => rfl); (case hr => first | (go_simp; done) | (go_simp; rfl)); intro gb153 hg w8 hbox hb; have n0_ := zK (below_step (by repeat (first | (with_reducible first | exact HB.out | apply zA | apply zN | apply zD) | exact HB.out)) hb); have n1_ := zK (hbox); have n2_ := zK ((by rw [hg]; exact (below_size (by repeat (first | (with_reducible first | exact HB.out | apply zA | apply zN | apply zD) | exact HB.out))) : w.heap.size ≤ gb153)); have n3_ := zK ((by rw [hg]; exact (below_size (by repeat (first | (with_reducible first | exact HB.out | apply zA | apply zN | apply zD) | exact HB.out))) : w.heap.size ≤ gb153)); clear HB; have HB := n0_; have BK153 := n1_; have GW153 := n2_; have GE153 := n3_; clear n0_ n1_ n2_ n3_; clear hb hbox hg; have hcz9_0 : w8.cell? ⟨gb153, 0, none⟩ = some (.string (⟨#[]⟩ : ByteArray)) := (blk_cell BK153.out 0).trans rfl; have hcz9_1 : w8.cell? ⟨gb153, 1, none⟩ = some (.int .i64 0) := (blk_cell BK153.out 1).trans rfl; have hcz9_2 : w8.cell? ⟨gb153, 2, none⟩ = some (.string (⟨#[]⟩ : ByteArray)) := (blk_cell BK153.out 2).trans rfl; have hfz9_0 := blk_frozen BK153.out 0; have hfz9_1 := blk_frozen BK153.out 1; have hfz9_2 := blk_frozen BK153.out 2) | (go_at_call 97; (with_reducible refine (spec_PathFault.calls k1 ((rd_T106 l0 x3_1).f0) t154 _ A5.out).mono ?_); rintro e w10 ⟨rfl, hb⟩; have n0_ := zK (blk_below (g := gb153) (o := .cells #[.string ((rd_T106 l0 x3_1).f0), .int .i64 ((rd_T106 l0 x3_1).f1), .string ((rd_T106 l0 x3_1).f2)] 106 (0, 0)) (by (with_reducible repeat (first | refine zM ?_ _ | refine zP ?_ | refine zQ ?_ _)); refine blk_put (cs := #[.string ((rd_T106 l0 x3_1).f0), .int .i64 ((rd_T106 l0 x3_1).f1), .string (⟨#[]⟩ : ByteArray)]) ?_ 2 _ rfl; (with_reducible repeat (first | refine zM ?_ _ | refine zP ?_ | refine zQ ?_ _)); refine blk_put (cs := #[.string ((rd_T106 l0 x3_1).f0), .int .i64 0, .string (⟨#[]⟩ : ByteArray)]) ?_ 1 _ rfl; (with_reducible repeat (first | refine zM ?_ _ | refine zP ?_ | refine zQ ?_ _)); refine blk_put (cs := #[.string (⟨#[]⟩ : ByteArray), .int .i64 0, .string (⟨#[]⟩ : ByteArray)]) ?_ 0 _ rfl; (with_reducible repeat (first | refine zM ?_ _ | refine zP ?_ | refine zQ ?_ _)); exact BK153.out) hb); have n1_ := zK (below_step (by repeat (first | (with_reducible first | exact HB.out | apply zA | apply zN | apply zD | refine below_set ?_ GE153.out) | exact HB.out)) hb); clear BK153; clear HB; have BK153 := n0_; have HB := n1_; clear n0_ n1_; (try clear hb); (try clear hb2); (try clear hk); (try clear hi)))
       repeat (go_quiet (first | ((with_reducible refine gate_dst (N := 4) rfl ?_); refine box_event ?hg (N := 4) ?hd (cs := #[.string (⟨#[]⟩ : ByteArray), .int .i64 0, .string (⟨#[]⟩ : ByteArray)]) (t := 106) ?hr ?_; (case hd => rfl); (case hg => rfl); (case hr => first | (go_simp; done) | (go_simp; rfl)); intro gb153 hg w8 hbox hb; have n0_ := zK (below_step (by repeat (first | (with_reducible first | exact HB.out | apply zA | apply zN | apply zD) | exact HB.out)) hb); have n1_ := zK (hbox); have n2_ := zK ((by rw [hg]; exact (below_size (by repeat (first | (with_reducible first | exact HB.out | apply zA | apply zN | apply zD) | exact HB.out))) : w.heap.size ≤ gb153)); have n3_ := zK ((by rw [hg]; exact (below_size (by repeat (first | (with_reducible first | exact HB.out | apply zA | apply zN | apply zD) | exact HB.out))) : w.heap.size ≤ gb153)); clear HB; have HB := n0_; have BK153 := n1_; have GW153 := n2_; have GE153 := n3_; clear n0_ n1_ n2_ n3_; clear hb hbox hg; have hcz9_0 : w8.cell? ⟨gb153, 0, none⟩ = some (.string (⟨#[]⟩ : ByteArray)) := (blk_cell BK153.out 0).trans rfl; have hcz9_1 : w8.cell? ⟨gb153, 1, none⟩ = some (.int .i64 0) := (blk_cell BK153.out 1).trans rfl; have hcz9_2 : w8.cell? ⟨gb153, 2, none⟩ = some (.string (⟨#[]⟩ : ByteArray)) := (blk_cell BK153.out 2).trans rfl; have hfz9_0 := blk_frozen BK153.out 0; have hfz9_1 := blk_frozen BK153.out 1; have hfz9_2 := blk_frozen BK153.out 2) | (go_at_call 97; (with_reducible refine (spec_PathFault.calls k1 ((rd_T106 l0 x3_1).f0) t154 _ A5.out).mono ?_); rintro e w10 ⟨rfl, hb⟩; have n0_ := zK (blk_below (g := gb153) (o := .cells #[.string ((rd_T106 l0 x3_1).f0), .int .i64 ((rd_T106 l0 x3_1).f1), .string ((rd_T106 l0 x3_1).f2)] 106 (0, 0)) (by (with_reducible repeat (first | refine zM ?_ _ | refine zP ?_ | refine zQ ?_ _)); refine blk_put (cs := #[.string ((rd_T106 l0 x3_1).f0), .int .i64 ((rd_T106 l0 x3_1).f1), .string (⟨#[]⟩ : ByteArray)]) ?_ 2 _ rfl; (with_reducible repeat (first | refine zM ?_ _ | refine zP ?_ | refine zQ ?_ _)); refine blk_put (cs := #[.string ((rd_T106 l0 x3_1).f0), .int .i64 0, .string (⟨#[]⟩ : ByteArray)]) ?_ 1 _ rfl; (with_reducible repeat (first | refine zM ?_ _ | refine zP ?_ | refine zQ ?_ _)); refine blk_put (cs := #[.string (⟨#[]⟩ : ByteArray), .int .i64 0, .string (⟨#[]⟩ : ByteArray)]) ?_ 0 _ rfl; (with_reducible repeat (first | refine zM ?_ _ | refine zP ?_ | refine zQ ?_ _)); exact BK153.out) hb); have n1_ := zK (below_step (by repeat (first | (with_reducible first | exact HB.out | apply zA | apply zN | apply zD | refine below_set ?_ GE153.out) | exact HB.out)) hb); clear BK153; clear HB; have BK153 := n0_; have HB := n1_; clear n0_ n1_; (try clear hb); (try clear hb2); (try clear hk); (try clear hi))); go_upto_region 10 with (first | ((with_reducible refine gate_dst (N := 4) rfl ?_); refine box_event ?hg (N := 4) ?hd (cs := #[.string (⟨#[]⟩ : ByteArray), .int .i64 0, .string (⟨#[]⟩ : ByteArray)]) (t := 106) ?hr ?_; (case hd => rfl); (case hg => rfl); (case hr => first | (go_simp; done) | (go_simp; rfl)); intro gb153 hg w8 hbox hb; have n0_ := zK (below_step (by repeat (first | (with_reducible first | exact HB.out | apply zA | apply zN | apply zD) | exact HB.out)) hb); have n1_ := zK (hbox); have n2_ := zK ((by rw [hg]; exact (below_size (by repeat (first | (with_reducible first | exact HB.out | apply zA | apply zN | apply zD) | exact HB.out))) : w.heap.size ≤ gb153)); have n3_ := zK ((by rw [hg]; exact (below_size (by repeat (first | (with_reducible first | exact HB.out | apply zA | apply zN | apply zD) | exact HB.out))) : w.heap.size ≤ gb153)); clear HB; have HB := n0_; have BK153 := n1_; have GW153 := n2_; have GE153 := n3_; clear n0_ n1_ n2_ n3_; clear hb hbox hg; have hcz9_0 : w8.cell? ⟨gb153, 0, none⟩ = some (.string (⟨#[]⟩ : ByteArray)) := (blk_cell BK153.out 0).trans rfl; have hcz9_1 : w8.cell? ⟨gb153, 1, none⟩ = some (.int .i64 0) := (blk_cell BK153.out 1).trans rfl; have hcz9_2 : w8.cell? ⟨gb153, 2, none⟩ = some (.string (⟨#[]⟩ : ByteArray)) := (blk_cell BK153.out 2).trans rfl; have hfz9_0 := blk_frozen BK153.out 0; have hfz9_1 := blk_frozen BK153.out 1; have hfz9_2 := blk_frozen BK153.out 2) | (go_at_call 97; (with_reducible refine (spec_PathFault.calls k1 ((rd_T106 l0 x3_1).f0) t154 _ A5.out).mono ?_); rintro e w10 ⟨rfl, hb⟩; have n0_ := zK (blk_below (g := gb153) (o := .cells #[.string ((rd_T106 l0 x3_1).f0), .int .i64 ((rd_T106 l0 x3_1).f1), .string ((rd_T106 l0 x3_1).f2)] 106 (0, 0)) (by (with_reducible repeat (first | refine zM ?_ _ | refine zP ?_ | refine zQ ?_ _)); refine blk_put (cs := #[.string ((rd_T106 l0 x3_1).f0), .int .i64 ((rd_T106 l0 x3_1).f1), .string (⟨#[]⟩ : ByteArray)]) ?_ 2 _ rfl; (with_reducible repeat (first | refine zM ?_ _ | refine zP ?_ | refine zQ ?_ _)); refine blk_put (cs := #[.string ((rd_T106 l0 x3_1).f0), .int .i64 0, .string (⟨#[]⟩ : ByteArray)]) ?_ 1 _ rfl; (with_reducible repeat (first | refine zM ?_ _ | refine zP ?_ | refine zQ ?_ _)); refine blk_put (cs := #[.string (⟨#[]⟩ : ByteArray), .int .i64 0, .string (⟨#[]⟩ : ByteArray)]) ?_ 0 _ rfl; (with_reducible repeat (first | refine zM ?_ _ | refine zP ?_ | refine zQ ?_ _)); exact BK153.out) hb); have n1_ := zK (below_step (by repeat (first | (with_reducible first | exact HB.out | apply zA | apply zN | apply zD | refine below_set ?_ GE153.out) | exact HB.out)) hb); clear BK153; clear HB; have BK153 := n0_; have HB := n1_; clear n0_ n1_; (try clear hb); (try clear hb2); (try clear hk); (try clear hi))))
       (try simp only [Act.put, zS, zT, zU])
       go_cut [34] (fun v34 wc => ∃ (kq : Nat) (x34_6 : Bool), v34 = .bool x34_6 ∧ Aside0 (spec_FilesFault.j1 kq l0 x3_1 x34_6 ((rd_T106 l0 x3_1).f0) ((rd_T106 l0 x3_1).f1) ((rd_T106 l0 x3_1).f2) = some r) ∧ Aside0 (kq ≤ k1) ∧ Aside0 (wc.heap[gb153]? = some (.cells #[.string ((rd_T106 l0 x3_1).f0), .int .i64 ((rd_T106 l0 x3_1).f1), .string ((rd_T106 l0 x3_1).f2)] 106 (0, 0))) ∧ Aside0 (Below w.heap.size w wc))
       case first =>
        have H := HC7.out
        clear HC7
        by_cases c11 : ((rd_T106 l0 x3_1).f1) = 1
        ·
         rw [if_pos c11] at H
         have c11b0 : (((rd_T106 l0 x3_1).f1) == 1) = true := beq_iff_eq.mpr c11
         have c11b1 : (((rd_T106 l0 x3_1).f1) != 1) = false := bne_eq_false_iff_eq.mpr c11
         clear c11
         (first | rw [c11b0] | (simp only [i64_w, i32_w]; rw [c11b0]) | skip)
         have H' := zK H
         clear H
         have hcz12_0 : w10.cell? ⟨gb153, 0, none⟩ = some (.string ((rd_T106 l0 x3_1).f0)) := (blk_cell BK153.out 0).trans rfl
         have hcz12_1 : w10.cell? ⟨gb153, 1, none⟩ = some (.int .i64 ((rd_T106 l0 x3_1).f1)) := (blk_cell BK153.out 1).trans rfl
         have hcz12_2 : w10.cell? ⟨gb153, 2, none⟩ = some (.string ((rd_T106 l0 x3_1).f2)) := (blk_cell BK153.out 2).trans rfl
         have hfz12_0 := blk_frozen BK153.out 0
         have hfz12_1 := blk_frozen BK153.out 1
         have hfz12_2 := blk_frozen BK153.out 2
         go_wp2
         repeat (go_quiet (fail); try go_wp2)
         go_meet
         case rel => exact ⟨_, (false), (by first | rfl | (simp; done) | (simp [*]; done)), H', ⟨by have := HK1.out; first | omega | exact Nat.le_refl _⟩, ⟨by (with_reducible repeat (first | refine zM ?_ _ | refine zP ?_ | refine zQ ?_ _)); exact BK153.out⟩, ⟨by repeat (first | (with_reducible first | exact HB.out | apply zA | apply zN | apply zD | refine below_set ?_ GE153.out) | exact HB.out)⟩⟩
        ·
         rw [if_neg c11] at H
         have c11b0 : (((rd_T106 l0 x3_1).f1) == 1) = false := beq_eq_false_iff_ne.mpr c11
         have c11b1 : (((rd_T106 l0 x3_1).f1) != 1) = true := bne_iff_ne.mpr c11
         (first | rw [c11b0] | (simp only [i64_w, i32_w]; rw [c11b0]) | skip)
         have H' := zK H
         clear H
         have hcz13_0 : w10.cell? ⟨gb153, 0, none⟩ = some (.string ((rd_T106 l0 x3_1).f0)) := (blk_cell BK153.out 0).trans rfl
         have hcz13_1 : w10.cell? ⟨gb153, 1, none⟩ = some (.int .i64 ((rd_T106 l0 x3_1).f1)) := (blk_cell BK153.out 1).trans rfl
         have hcz13_2 : w10.cell? ⟨gb153, 2, none⟩ = some (.string ((rd_T106 l0 x3_1).f2)) := (blk_cell BK153.out 2).trans rfl
         have hfz13_0 := blk_frozen BK153.out 0
         have hfz13_1 := blk_frozen BK153.out 1
         have hfz13_2 := blk_frozen BK153.out 2
         go_wp2
         repeat (go_quiet (fail); try go_wp2)
         go_meet
         case rel => exact ⟨_, ((((rd_T106 l0 x3_1).f1) != 2)), (by first | rfl | (simp; done) | (simp [*]; done)), H', ⟨by have := HK1.out; first | omega | exact Nat.le_refl _⟩, ⟨by (with_reducible repeat (first | refine zM ?_ _ | refine zP ?_ | refine zQ ?_ _)); exact BK153.out⟩, ⟨by repeat (first | (with_reducible first | exact HB.out | apply zA | apply zN | apply zD | refine below_set ?_ GE153.out) | exact HB.out)⟩⟩
       case rest =>
        clear HC7
        try clear c1
        try clear p1
        try clear q1
        try clear hx1
        try clear c2
        try clear c2b0
        try clear c2b1
        try clear p2
        try clear c3
        try clear c3b0
        try clear c4
        try clear c4b0
        try clear c5
        try clear c6
        try clear c6b0
        try clear c6b1
        try clear c11
        try clear c11b0
        try clear c11b1
        try clear hcz12_0
        try clear hcz12_1
        try clear hcz12_2
        try clear hcz13_0
        try clear hcz13_1
        try clear hcz13_2
        try clear hcz9_0
        try clear hcz9_1
        try clear hcz9_2
        try clear hfz12_0
        try clear hfz12_1
        try clear hfz12_2
        try clear hfz13_0
        try clear hfz13_1
        try clear hfz13_2
        try clear hfz9_0
        try clear hfz9_1
        try clear hfz9_2
        try clear hx152_0
        try clear hx152_1
        try clear hx152_2
        try clear p152
        try clear p2
        try clear q152
        obtain ⟨kq, x34_6, rfl, HA, HJ6, BK153, HB⟩ := hcut
        cases kq with
        | zero => exact absurd HA.out (by simp [spec_FilesFault.j1])
        | succ kj6 =>
         have H := HA.out
         clear HA
         simp only [spec_FilesFault.j1] at H
         by_cases c14 : x34_6 = true
         ·
          subst c14
          have H1 : (some 3) = some r := by rw [if_pos rfl] at H; exact H
          clear H
          have H := H1
          clear H1
          obtain rfl := Option.some.inj H
          go_wp2
          repeat (go_quiet (fail); try go_wp2)
          go_ret
          exact ⟨by first | rfl | (simp [errW_none, errW_some] <;> rfl) | (simp [*, errW_none, errW_some] <;> rfl), by repeat (first | (with_reducible first | exact HB.out | apply zA | apply zN | apply zD | refine below_set ?_ GE153.out) | exact HB.out)⟩
         ·
          replace c14 := Bool.eq_false_iff.mpr c14
          subst c14
          have H1 : ((spec_l6Is.f kj6 ((rd_T106 l0 x3_1).f2) 1).bind fun t155 => (if t155 = true then (if x3_1 > 0 then (if 0 ≤ (wrap64 (x3_1 - 1)) then (if (wrap64 (x3_1 - 1)) < (l0.length : Int) then (if ((Op.bytesLess (((rd_T106 l0 (wrap64 (x3_1 - 1))).f0).toList) ((rd_T106 l0 x3_1).f0).toList) = true) then (spec_FilesFault.l0 kj6 l0 (wrap64 (x3_1 + 1))) else (some 1)) else (none)) else (none)) else (spec_FilesFault.l0 kj6 l0 (wrap64 (x3_1 + 1)))) else (some 1))) = some r := by rw [if_neg (show ¬ (false = true) by decide)] at H; exact H
          clear H
          have H := H1
          clear H1
          replace H := Option.bind_eq_some_iff.mp H
          obtain ⟨t155, A150, H⟩ := H
          replace H : (if t155 = true then (if x3_1 > 0 then (if 0 ≤ (wrap64 (x3_1 - 1)) then (if (wrap64 (x3_1 - 1)) < (l0.length : Int) then (if ((Op.bytesLess (((rd_T106 l0 (wrap64 (x3_1 - 1))).f0).toList) ((rd_T106 l0 x3_1).f0).toList) = true) then (spec_FilesFault.l0 kj6 l0 (wrap64 (x3_1 + 1))) else (some 1)) else (none)) else (none)) else (spec_FilesFault.l0 kj6 l0 (wrap64 (x3_1 + 1)))) else (some 1)) = some r := H
          have A15 := zK A150
          clear A150
          by_cases c16 : t155 = true
          ·
           subst c16
           have H1 : (if x3_1 > 0 then (if 0 ≤ (wrap64 (x3_1 - 1)) then (if (wrap64 (x3_1 - 1)) < (l0.length : Int) then (if ((Op.bytesLess (((rd_T106 l0 (wrap64 (x3_1 - 1))).f0).toList) ((rd_T106 l0 x3_1).f0).toList) = true) then (spec_FilesFault.l0 kj6 l0 (wrap64 (x3_1 + 1))) else (some 1)) else (none)) else (none)) else (spec_FilesFault.l0 kj6 l0 (wrap64 (x3_1 + 1)))) = some r := by rw [if_pos rfl] at H; exact H
           clear H
           have H := H1
           clear H1
           by_cases c17 : x3_1 > 0
           ·
            rw [if_pos c17] at H
            have c17b0 : decide (0 < x3_1) = true := decide_eq_true c17
            clear c17
            obtain ⟨ji18, hji18⟩ : ∃ j_ : Int, (wrap64 (x3_1 - 1)) = j_ := ⟨_, rfl⟩
            replace H : (if 0 ≤ (ji18) then (if (ji18) < (l0.length : Int) then (if ((Op.bytesLess (((rd_T106 l0 (ji18)).f0).toList) ((rd_T106 l0 x3_1).f0).toList) = true) then (spec_FilesFault.l0 kj6 l0 (wrap64 (x3_1 + 1))) else (some 1)) else (none)) else (none)) = some r := by first | (rw [hji18] at H; exact H) | (simp only [hji18] at H ⊢; exact H)
            (try rw [hji18] at A15)
            have hji18w : (IntKind.i64.wrap (x3_1 - 1)) = ji18 := (i64_w _).trans hji18
            by_cases c19 : 0 ≤ (ji18)
            ·
             rw [if_pos c19] at H
             have c19b0 : decide (0 ≤ (ji18)) = true := decide_eq_true c19
             clear c19
             by_cases c20 : (ji18) < (l0.length : Int)
             ·
              rw [if_pos c20] at H
              have c20b0 : decide ((ji18) < (l0.length : Int)) = true := decide_eq_true c20
              clear c20
              by_cases c21 : ((Op.bytesLess (((rd_T106 l0 (ji18)).f0).toList) ((rd_T106 l0 x3_1).f0).toList) = true)
              ·
               rw [if_pos c21] at H
               have c21b0 : (Op.bytesLess (((rd_T106 l0 (ji18)).f0).toList) ((rd_T106 l0 x3_1).f0).toList) = true := c21
               clear c21
               have H' := zK H
               clear H
               have hcz22_0 : wc.cell? ⟨gb153, 0, none⟩ = some (.string ((rd_T106 l0 x3_1).f0)) := (blk_cell BK153.out 0).trans rfl
               have hcz22_1 : wc.cell? ⟨gb153, 1, none⟩ = some (.int .i64 ((rd_T106 l0 x3_1).f1)) := (blk_cell BK153.out 1).trans rfl
               have hcz22_2 : wc.cell? ⟨gb153, 2, none⟩ = some (.string ((rd_T106 l0 x3_1).f2)) := (blk_cell BK153.out 2).trans rfl
               have hfz22_0 := blk_frozen BK153.out 0
               have hfz22_1 := blk_frozen BK153.out 1
               have hfz22_2 := blk_frozen BK153.out 2
               go_wp2_with (first | (go_at_call 90; (with_reducible refine (spec_l6Is.calls kj6 ((rd_T106 l0 x3_1).f2) 1 true _ A15.out).mono ?_); rintro e w' ⟨rfl, ⟨nd, rfl⟩⟩; (try first | exact ⟨rfl, _, World.drewN_drewN _ _ _⟩ | exact ⟨rfl, _, Eq.trans (World.drewN_drewN _ _ _) (congrArg (World.drewN _) (Nat.add_assoc _ _ _))⟩); have p156 : 0 ≤ ((ji18) : Int) := zX (by first | (with_reducible assumption) | assumption); have q156 : (ji18) < (l0.length : Int) := zX (by first | (with_reducible assumption) | assumption); obtain ⟨ad156, e156, hx156_0, hx156_1, hx156_2⟩ := at_T106 HR0.out (ji18) p156 q156; obtain rfl : ad152 = ad156 := (by injection e156); replace hx156_0 := (HB.out.cell (zL w _ hx156_0)).trans hx156_0; replace hx156_1 := (HB.out.cell (zL w _ hx156_1)).trans hx156_1; replace hx156_2 := (HB.out.cell (zL w _ hx156_2)).trans hx156_2; replace p156 := eq_true p156; replace q156 := eq_true q156))
               repeat (go_quiet (first | (go_at_call 90; (with_reducible refine (spec_l6Is.calls kj6 ((rd_T106 l0 x3_1).f2) 1 true _ A15.out).mono ?_); rintro e w' ⟨rfl, ⟨nd, rfl⟩⟩; (try first | exact ⟨rfl, _, World.drewN_drewN _ _ _⟩ | exact ⟨rfl, _, Eq.trans (World.drewN_drewN _ _ _) (congrArg (World.drewN _) (Nat.add_assoc _ _ _))⟩); have p156 : 0 ≤ ((ji18) : Int) := zX (by first | (with_reducible assumption) | assumption); have q156 : (ji18) < (l0.length : Int) := zX (by first | (with_reducible assumption) | assumption); obtain ⟨ad156, e156, hx156_0, hx156_1, hx156_2⟩ := at_T106 HR0.out (ji18) p156 q156; obtain rfl : ad152 = ad156 := (by injection e156); replace hx156_0 := (HB.out.cell (zL w _ hx156_0)).trans hx156_0; replace hx156_1 := (HB.out.cell (zL w _ hx156_1)).trans hx156_1; replace hx156_2 := (HB.out.cell (zL w _ hx156_2)).trans hx156_2; replace p156 := eq_true p156; replace q156 := eq_true q156)); try go_wp2_with (first | (go_at_call 90; (with_reducible refine (spec_l6Is.calls kj6 ((rd_T106 l0 x3_1).f2) 1 true _ A15.out).mono ?_); rintro e w' ⟨rfl, ⟨nd, rfl⟩⟩; (try first | exact ⟨rfl, _, World.drewN_drewN _ _ _⟩ | exact ⟨rfl, _, Eq.trans (World.drewN_drewN _ _ _) (congrArg (World.drewN _) (Nat.add_assoc _ _ _))⟩); have p156 : 0 ≤ ((ji18) : Int) := zX (by first | (with_reducible assumption) | assumption); have q156 : (ji18) < (l0.length : Int) := zX (by first | (with_reducible assumption) | assumption); obtain ⟨ad156, e156, hx156_0, hx156_1, hx156_2⟩ := at_T106 HR0.out (ji18) p156 q156; obtain rfl : ad152 = ad156 := (by injection e156); replace hx156_0 := (HB.out.cell (zL w _ hx156_0)).trans hx156_0; replace hx156_1 := (HB.out.cell (zL w _ hx156_1)).trans hx156_1; replace hx156_2 := (HB.out.cell (zL w _ hx156_2)).trans hx156_2; replace p156 := eq_true p156; replace q156 := eq_true q156)))
               go_roundg kj6
               case measure => have := HK1.out; have := HJ6.out; omega
               case rel => exact ⟨(wrap64 (x3_1 + 1)), (by first | rfl | (simp; done) | (simp [*]; done)), H', ⟨by have := HK1.out; have := HJ6.out; omega⟩, ⟨by repeat (first | (with_reducible first | exact HB.out | apply zA | apply zN | apply zD | refine below_set ?_ GE153.out) | exact HB.out)⟩⟩
              ·
               rw [if_neg c21] at H
               have c21b0 : (Op.bytesLess (((rd_T106 l0 (ji18)).f0).toList) ((rd_T106 l0 x3_1).f0).toList) = false := by simpa using c21
               clear c21
               obtain rfl := Option.some.inj H
               have hcz23_0 : wc.cell? ⟨gb153, 0, none⟩ = some (.string ((rd_T106 l0 x3_1).f0)) := (blk_cell BK153.out 0).trans rfl
               have hcz23_1 : wc.cell? ⟨gb153, 1, none⟩ = some (.int .i64 ((rd_T106 l0 x3_1).f1)) := (blk_cell BK153.out 1).trans rfl
               have hcz23_2 : wc.cell? ⟨gb153, 2, none⟩ = some (.string ((rd_T106 l0 x3_1).f2)) := (blk_cell BK153.out 2).trans rfl
               have hfz23_0 := blk_frozen BK153.out 0
               have hfz23_1 := blk_frozen BK153.out 1
               have hfz23_2 := blk_frozen BK153.out 2
               go_wp2_with (first | (go_at_call 90; (with_reducible refine (spec_l6Is.calls kj6 ((rd_T106 l0 x3_1).f2) 1 true _ A15.out).mono ?_); rintro e w' ⟨rfl, ⟨nd, rfl⟩⟩; (try first | exact ⟨rfl, _, World.drewN_drewN _ _ _⟩ | exact ⟨rfl, _, Eq.trans (World.drewN_drewN _ _ _) (congrArg (World.drewN _) (Nat.add_assoc _ _ _))⟩); have p156 : 0 ≤ ((ji18) : Int) := zX (by first | (with_reducible assumption) | assumption); have q156 : (ji18) < (l0.length : Int) := zX (by first | (with_reducible assumption) | assumption); obtain ⟨ad156, e156, hx156_0, hx156_1, hx156_2⟩ := at_T106 HR0.out (ji18) p156 q156; obtain rfl : ad152 = ad156 := (by injection e156); replace hx156_0 := (HB.out.cell (zL w _ hx156_0)).trans hx156_0; replace hx156_1 := (HB.out.cell (zL w _ hx156_1)).trans hx156_1; replace hx156_2 := (HB.out.cell (zL w _ hx156_2)).trans hx156_2; replace p156 := eq_true p156; replace q156 := eq_true q156))
               repeat (go_quiet (first | (go_at_call 90; (with_reducible refine (spec_l6Is.calls kj6 ((rd_T106 l0 x3_1).f2) 1 true _ A15.out).mono ?_); rintro e w' ⟨rfl, ⟨nd, rfl⟩⟩; (try first | exact ⟨rfl, _, World.drewN_drewN _ _ _⟩ | exact ⟨rfl, _, Eq.trans (World.drewN_drewN _ _ _) (congrArg (World.drewN _) (Nat.add_assoc _ _ _))⟩); have p156 : 0 ≤ ((ji18) : Int) := zX (by first | (with_reducible assumption) | assumption); have q156 : (ji18) < (l0.length : Int) := zX (by first | (with_reducible assumption) | assumption); obtain ⟨ad156, e156, hx156_0, hx156_1, hx156_2⟩ := at_T106 HR0.out (ji18) p156 q156; obtain rfl : ad152 = ad156 := (by injection e156); replace hx156_0 := (HB.out.cell (zL w _ hx156_0)).trans hx156_0; replace hx156_1 := (HB.out.cell (zL w _ hx156_1)).trans hx156_1; replace hx156_2 := (HB.out.cell (zL w _ hx156_2)).trans hx156_2; replace p156 := eq_true p156; replace q156 := eq_true q156)); try go_wp2_with (first | (go_at_call 90; (with_reducible refine (spec_l6Is.calls kj6 ((rd_T106 l0 x3_1).f2) 1 true _ A15.out).mono ?_); rintro e w' ⟨rfl, ⟨nd, rfl⟩⟩; (try first | exact ⟨rfl, _, World.drewN_drewN _ _ _⟩ | exact ⟨rfl, _, Eq.trans (World.drewN_drewN _ _ _) (congrArg (World.drewN _) (Nat.add_assoc _ _ _))⟩); have p156 : 0 ≤ ((ji18) : Int) := zX (by first | (with_reducible assumption) | assumption); have q156 : (ji18) < (l0.length : Int) := zX (by first | (with_reducible assumption) | assumption); obtain ⟨ad156, e156, hx156_0, hx156_1, hx156_2⟩ := at_T106 HR0.out (ji18) p156 q156; obtain rfl : ad152 = ad156 := (by injection e156); replace hx156_0 := (HB.out.cell (zL w _ hx156_0)).trans hx156_0; replace hx156_1 := (HB.out.cell (zL w _ hx156_1)).trans hx156_1; replace hx156_2 := (HB.out.cell (zL w _ hx156_2)).trans hx156_2; replace p156 := eq_true p156; replace q156 := eq_true q156)))
               go_ret
               exact ⟨by first | rfl | (simp [errW_none, errW_some] <;> rfl) | (simp only [← hji18]; first | rfl | (simp [errW_none, errW_some] <;> rfl)) | (simp [*, errW_none, errW_some] <;> rfl), by repeat (first | (with_reducible first | exact HB.out | apply zA | apply zN | apply zD | refine below_set ?_ GE153.out) | exact HB.out)⟩
             ·
              rw [if_neg c20] at H
              exact absurd H (by simp)
            ·
             rw [if_neg c19] at H
             exact absurd H (by simp)
           ·
            rw [if_neg c17] at H
            have c17b0 : decide (0 < x3_1) = false := decide_eq_false c17
            clear c17
            have H' := zK H
            clear H
            have hcz24_0 : wc.cell? ⟨gb153, 0, none⟩ = some (.string ((rd_T106 l0 x3_1).f0)) := (blk_cell BK153.out 0).trans rfl
            have hcz24_1 : wc.cell? ⟨gb153, 1, none⟩ = some (.int .i64 ((rd_T106 l0 x3_1).f1)) := (blk_cell BK153.out 1).trans rfl
            have hcz24_2 : wc.cell? ⟨gb153, 2, none⟩ = some (.string ((rd_T106 l0 x3_1).f2)) := (blk_cell BK153.out 2).trans rfl
            have hfz24_0 := blk_frozen BK153.out 0
            have hfz24_1 := blk_frozen BK153.out 1
            have hfz24_2 := blk_frozen BK153.out 2
            go_wp2_with (first | (go_at_call 90; (with_reducible refine (spec_l6Is.calls kj6 ((rd_T106 l0 x3_1).f2) 1 true _ A15.out).mono ?_); rintro e w' ⟨rfl, ⟨nd, rfl⟩⟩; (try first | exact ⟨rfl, _, World.drewN_drewN _ _ _⟩ | exact ⟨rfl, _, Eq.trans (World.drewN_drewN _ _ _) (congrArg (World.drewN _) (Nat.add_assoc _ _ _))⟩)))
            repeat (go_quiet (first | (go_at_call 90; (with_reducible refine (spec_l6Is.calls kj6 ((rd_T106 l0 x3_1).f2) 1 true _ A15.out).mono ?_); rintro e w' ⟨rfl, ⟨nd, rfl⟩⟩; (try first | exact ⟨rfl, _, World.drewN_drewN _ _ _⟩ | exact ⟨rfl, _, Eq.trans (World.drewN_drewN _ _ _) (congrArg (World.drewN _) (Nat.add_assoc _ _ _))⟩))); try go_wp2_with (first | (go_at_call 90; (with_reducible refine (spec_l6Is.calls kj6 ((rd_T106 l0 x3_1).f2) 1 true _ A15.out).mono ?_); rintro e w' ⟨rfl, ⟨nd, rfl⟩⟩; (try first | exact ⟨rfl, _, World.drewN_drewN _ _ _⟩ | exact ⟨rfl, _, Eq.trans (World.drewN_drewN _ _ _) (congrArg (World.drewN _) (Nat.add_assoc _ _ _))⟩))))
            go_roundg kj6
            case measure => have := HK1.out; have := HJ6.out; omega
            case rel => exact ⟨(wrap64 (x3_1 + 1)), (by first | rfl | (simp; done) | (simp [*]; done)), H', ⟨by have := HK1.out; have := HJ6.out; omega⟩, ⟨by repeat (first | (with_reducible first | exact HB.out | apply zA | apply zN | apply zD | refine below_set ?_ GE153.out) | exact HB.out)⟩⟩
          ·
           replace c16 := Bool.eq_false_iff.mpr c16
           subst c16
           have H1 : (some 1) = some r := by rw [if_neg (show ¬ (false = true) by decide)] at H; exact H
           clear H
           have H := H1
           clear H1
           obtain rfl := Option.some.inj H
           have hcz25_0 : wc.cell? ⟨gb153, 0, none⟩ = some (.string ((rd_T106 l0 x3_1).f0)) := (blk_cell BK153.out 0).trans rfl
           have hcz25_1 : wc.cell? ⟨gb153, 1, none⟩ = some (.int .i64 ((rd_T106 l0 x3_1).f1)) := (blk_cell BK153.out 1).trans rfl
           have hcz25_2 : wc.cell? ⟨gb153, 2, none⟩ = some (.string ((rd_T106 l0 x3_1).f2)) := (blk_cell BK153.out 2).trans rfl
           have hfz25_0 := blk_frozen BK153.out 0
           have hfz25_1 := blk_frozen BK153.out 1
           have hfz25_2 := blk_frozen BK153.out 2
           go_wp2_with (first | (go_at_call 90; (with_reducible refine (spec_l6Is.calls kj6 ((rd_T106 l0 x3_1).f2) 1 false _ A15.out).mono ?_); rintro e w' ⟨rfl, ⟨nd, rfl⟩⟩; (try first | exact ⟨rfl, _, World.drewN_drewN _ _ _⟩ | exact ⟨rfl, _, Eq.trans (World.drewN_drewN _ _ _) (congrArg (World.drewN _) (Nat.add_assoc _ _ _))⟩)))
           repeat (go_quiet (first | (go_at_call 90; (with_reducible refine (spec_l6Is.calls kj6 ((rd_T106 l0 x3_1).f2) 1 false _ A15.out).mono ?_); rintro e w' ⟨rfl, ⟨nd, rfl⟩⟩; (try first | exact ⟨rfl, _, World.drewN_drewN _ _ _⟩ | exact ⟨rfl, _, Eq.trans (World.drewN_drewN _ _ _) (congrArg (World.drewN _) (Nat.add_assoc _ _ _))⟩))); try go_wp2_with (first | (go_at_call 90; (with_reducible refine (spec_l6Is.calls kj6 ((rd_T106 l0 x3_1).f2) 1 false _ A15.out).mono ?_); rintro e w' ⟨rfl, ⟨nd, rfl⟩⟩; (try first | exact ⟨rfl, _, World.drewN_drewN _ _ _⟩ | exact ⟨rfl, _, Eq.trans (World.drewN_drewN _ _ _) (congrArg (World.drewN _) (Nat.add_assoc _ _ _))⟩))))
           go_ret
           exact ⟨by first | rfl | (simp [errW_none, errW_some] <;> rfl) | (simp [*, errW_none, errW_some] <;> rfl), by repeat (first | (with_reducible first | exact HB.out | apply zA | apply zN | apply zD | refine below_set ?_ GE153.out) | exact HB.out)⟩
      ·
       rw [if_neg c6] at H
       have c6b0 : (t154 == 0) = false := beq_eq_false_iff_ne.mpr c6
       have c6b1 : (t154 != 0) = true := bne_iff_ne.mpr c6
       obtain rfl := Option.some.inj H
       have p152 : 0 ≤ (x3_1 : Int) := zX (by first | (with_reducible assumption) | assumption)
       have q152 : x3_1 < (l0.length : Int) := zX (by first | (with_reducible assumption) | assumption)
       obtain ⟨ad152, e152, hx152_0, hx152_1, hx152_2⟩ := at_T106 HR0.out x3_1 p152 q152
       cases e152
       replace hx152_0 := (HB.out.cell (zL w _ hx152_0)).trans hx152_0
       replace hx152_1 := (HB.out.cell (zL w _ hx152_1)).trans hx152_1
       replace hx152_2 := (HB.out.cell (zL w _ hx152_2)).trans hx152_2
       replace p152 := eq_true p152
       replace q152 := eq_true q152
       go_wp2_with (first | ((with_reducible refine gate_dst (N := 4) rfl ?_); refine box_event ?hg (N := 4) ?hd (cs := #[.string (⟨#[]⟩ : ByteArray), .int .i64 0, .string (⟨#[]⟩ : ByteArray)]) (t := 106) ?hr ?_; (case hd => rfl); (case hg => rfl); (case hr => first | (go_simp; done) | (go_simp; rfl)); intro gb153 hg w26 hbox hb; have n0_ := zK (below_step (by repeat (first | (with_reducible first | exact HB.out | apply zA | apply zN | apply zD) | exact HB.out)) hb); have n1_ := zK (hbox); have n2_ := zK ((by rw [hg]; exact (below_size (by repeat (first | (with_reducible first | exact HB.out | apply zA | apply zN | apply zD) | exact HB.out))) : w.heap.size ≤ gb153)); have n3_ := zK ((by rw [hg]; exact (below_size (by repeat (first | (with_reducible first | exact HB.out | apply zA | apply zN | apply zD) | exact HB.out))) : w.heap.size ≤ gb153)); clear HB; have HB := n0_; have BK153 := n1_; have GW153 := n2_; have GE153 := n3_; clear n0_ n1_ n2_ n3_; clear hb hbox hg; have hcz27_0 : w26.cell? ⟨gb153, 0, none⟩ = some (.string (⟨#[]⟩ : ByteArray)) := (blk_cell BK153.out 0).trans rfl; have hcz27_1 : w26.cell? ⟨gb153, 1, none⟩ = some (.int .i64 0) := (blk_cell BK153.out 1).trans rfl; have hcz27_2 : w26.cell? ⟨gb153, 2, none⟩ = some (.string (⟨#[]⟩ : ByteArray)) := (blk_cell BK153.out 2).trans rfl; have hfz27_0 := blk_frozen BK153.out 0; have hfz27_1 := blk_frozen BK153.out 1; have hfz27_2 := blk_frozen BK153.out 2) | (go_at_call 97; (with_reducible refine (spec_PathFault.calls k1 ((rd_T106 l0 x3_1).f0) t154 _ A5.out).mono ?_); rintro e w28 ⟨rfl, hb⟩; have n0_ := zK (blk_below (g := gb153) (o := .cells #[.string ((rd_T106 l0 x3_1).f0), .int .i64 ((rd_T106 l0 x3_1).f1), .string ((rd_T106 l0 x3_1).f2)] 106 (0, 0)) (by (with_reducible repeat (first | refine zM ?_ _ | refine zP ?_ | refine zQ ?_ _)); refine blk_put (cs := #[.string ((rd_T106 l0 x3_1).f0), .int .i64 ((rd_T106 l0 x3_1).f1), .string (⟨#[]⟩ : ByteArray)]) ?_ 2 _ rfl; (with_reducible repeat (first | refine zM ?_ _ | refine zP ?_ | refine zQ ?_ _)); refine blk_put (cs := #[.string ((rd_T106 l0 x3_1).f0), .int .i64 0, .string (⟨#[]⟩ : ByteArray)]) ?_ 1 _ rfl; (with_reducible repeat (first | refine zM ?_ _ | refine zP ?_ | refine zQ ?_ _)); refine blk_put (cs := #[.string (⟨#[]⟩ : ByteArray), .int .i64 0, .string (⟨#[]⟩ : ByteArray)]) ?_ 0 _ rfl; (with_reducible repeat (first | refine zM ?_ _ | refine zP ?_ | refine zQ ?_ _)); exact BK153.out) hb); have n1_ := zK (below_step (by repeat (first | (with_reducible first | exact HB.out | apply zA | apply zN | apply zD | refine below_set ?_ GE153.out) | exact HB.out)) hb); clear BK153; clear HB; have BK153 := n0_; have HB := n1_; clear n0_ n1_; (try clear hb); (try clear hb2); (try clear hk); (try clear hi)))
       repeat (go_quiet (first | ((with_reducible refine gate_dst (N := 4) rfl ?_); refine box_event ?hg (N := 4) ?hd (cs := #[.string (⟨#[]⟩ : ByteArray), .int .i64 0, .string (⟨#[]⟩ : ByteArray)]) (t := 106) ?hr ?_; (case hd => rfl); (case hg => rfl); (case hr => first | (go_simp; done) | (go_simp; rfl)); intro gb153 hg w26 hbox hb; have n0_ := zK (below_step (by repeat (first | (with_reducible first | exact HB.out | apply zA | apply zN | apply zD) | exact HB.out)) hb); have n1_ := zK (hbox); have n2_ := zK ((by rw [hg]; exact (below_size (by repeat (first | (with_reducible first | exact HB.out | apply zA | apply zN | apply zD) | exact HB.out))) : w.heap.size ≤ gb153)); have n3_ := zK ((by rw [hg]; exact (below_size (by repeat (first | (with_reducible first | exact HB.out | apply zA | apply zN | apply zD) | exact HB.out))) : w.heap.size ≤ gb153)); clear HB; have HB := n0_; have BK153 := n1_; have GW153 := n2_; have GE153 := n3_; clear n0_ n1_ n2_ n3_; clear hb hbox hg; have hcz27_0 : w26.cell? ⟨gb153, 0, none⟩ = some (.string (⟨#[]⟩ : ByteArray)) := (blk_cell BK153.out 0).trans rfl; have hcz27_1 : w26.cell? ⟨gb153, 1, none⟩ = some (.int .i64 0) := (blk_cell BK153.out 1).trans rfl; have hcz27_2 : w26.cell? ⟨gb153, 2, none⟩ = some (.string (⟨#[]⟩ : ByteArray)) := (blk_cell BK153.out 2).trans rfl; have hfz27_0 := blk_frozen BK153.out 0; have hfz27_1 := blk_frozen BK153.out 1; have hfz27_2 := blk_frozen BK153.out 2) | (go_at_call 97; (with_reducible refine (spec_PathFault.calls k1 ((rd_T106 l0 x3_1).f0) t154 _ A5.out).mono ?_); rintro e w28 ⟨rfl, hb⟩; have n0_ := zK (blk_below (g := gb153) (o := .cells #[.string ((rd_T106 l0 x3_1).f0), .int .i64 ((rd_T106 l0 x3_1).f1), .string ((rd_T106 l0 x3_1).f2)] 106 (0, 0)) (by (with_reducible repeat (first | refine zM ?_ _ | refine zP ?_ | refine zQ ?_ _)); refine blk_put (cs := #[.string ((rd_T106 l0 x3_1).f0), .int .i64 ((rd_T106 l0 x3_1).f1), .string (⟨#[]⟩ : ByteArray)]) ?_ 2 _ rfl; (with_reducible repeat (first | refine zM ?_ _ | refine zP ?_ | refine zQ ?_ _)); refine blk_put (cs := #[.string ((rd_T106 l0 x3_1).f0), .int .i64 0, .string (⟨#[]⟩ : ByteArray)]) ?_ 1 _ rfl; (with_reducible repeat (first | refine zM ?_ _ | refine zP ?_ | refine zQ ?_ _)); refine blk_put (cs := #[.string (⟨#[]⟩ : ByteArray), .int .i64 0, .string (⟨#[]⟩ : ByteArray)]) ?_ 0 _ rfl; (with_reducible repeat (first | refine zM ?_ _ | refine zP ?_ | refine zQ ?_ _)); exact BK153.out) hb); have n1_ := zK (below_step (by repeat (first | (with_reducible first | exact HB.out | apply zA | apply zN | apply zD | refine below_set ?_ GE153.out) | exact HB.out)) hb); clear BK153; clear HB; have BK153 := n0_; have HB := n1_; clear n0_ n1_; (try clear hb); (try clear hb2); (try clear hk); (try clear hi))); try go_wp2_with (first | ((with_reducible refine gate_dst (N := 4) rfl ?_); refine box_event ?hg (N := 4) ?hd (cs := #[.string (⟨#[]⟩ : ByteArray), .int .i64 0, .string (⟨#[]⟩ : ByteArray)]) (t := 106) ?hr ?_; (case hd => rfl); (case hg => rfl); (case hr => first | (go_simp; done) | (go_simp; rfl)); intro gb153 hg w26 hbox hb; have n0_ := zK (below_step (by repeat (first | (with_reducible first | exact HB.out | apply zA | apply zN | apply zD) | exact HB.out)) hb); have n1_ := zK (hbox); have n2_ := zK ((by rw [hg]; exact (below_size (by repeat (first | (with_reducible first | exact HB.out | apply zA | apply zN | apply zD) | exact HB.out))) : w.heap.size ≤ gb153)); have n3_ := zK ((by rw [hg]; exact (below_size (by repeat (first | (with_reducible first | exact HB.out | apply zA | apply zN | apply zD) | exact HB.out))) : w.heap.size ≤ gb153)); clear HB; have HB := n0_; have BK153 := n1_; have GW153 := n2_; have GE153 := n3_; clear n0_ n1_ n2_ n3_; clear hb hbox hg; have hcz27_0 : w26.cell? ⟨gb153, 0, none⟩ = some (.string (⟨#[]⟩ : ByteArray)) := (blk_cell BK153.out 0).trans rfl; have hcz27_1 : w26.cell? ⟨gb153, 1, none⟩ = some (.int .i64 0) := (blk_cell BK153.out 1).trans rfl; have hcz27_2 : w26.cell? ⟨gb153, 2, none⟩ = some (.string (⟨#[]⟩ : ByteArray)) := (blk_cell BK153.out 2).trans rfl; have hfz27_0 := blk_frozen BK153.out 0; have hfz27_1 := blk_frozen BK153.out 1; have hfz27_2 := blk_frozen BK153.out 2) | (go_at_call 97; (with_reducible refine (spec_PathFault.calls k1 ((rd_T106 l0 x3_1).f0) t154 _ A5.out).mono ?_); rintro e w28 ⟨rfl, hb⟩; have n0_ := zK (blk_below (g := gb153) (o := .cells #[.string ((rd_T106 l0 x3_1).f0), .int .i64 ((rd_T106 l0 x3_1).f1), .string ((rd_T106 l0 x3_1).f2)] 106 (0, 0)) (by (with_reducible repeat (first | refine zM ?_ _ | refine zP ?_ | refine zQ ?_ _)); refine blk_put (cs := #[.string ((rd_T106 l0 x3_1).f0), .int .i64 ((rd_T106 l0 x3_1).f1), .string (⟨#[]⟩ : ByteArray)]) ?_ 2 _ rfl; (with_reducible repeat (first | refine zM ?_ _ | refine zP ?_ | refine zQ ?_ _)); refine blk_put (cs := #[.string ((rd_T106 l0 x3_1).f0), .int .i64 0, .string (⟨#[]⟩ : ByteArray)]) ?_ 1 _ rfl; (with_reducible repeat (first | refine zM ?_ _ | refine zP ?_ | refine zQ ?_ _)); refine blk_put (cs := #[.string (⟨#[]⟩ : ByteArray), .int .i64 0, .string (⟨#[]⟩ : ByteArray)]) ?_ 0 _ rfl; (with_reducible repeat (first | refine zM ?_ _ | refine zP ?_ | refine zQ ?_ _)); exact BK153.out) hb); have n1_ := zK (below_step (by repeat (first | (with_reducible first | exact HB.out | apply zA | apply zN | apply zD | refine below_set ?_ GE153.out) | exact HB.out)) hb); clear BK153; clear HB; have BK153 := n0_; have HB := n1_; clear n0_ n1_; (try clear hb); (try clear hb2); (try clear hk); (try clear hi))))
       go_ret
       exact ⟨by first | rfl | (simp [errW_none, errW_some] <;> rfl) | (simp [*, errW_none, errW_some] <;> rfl), by repeat (first | (with_reducible first | exact HB.out | apply zA | apply zN | apply zD | refine below_set ?_ GE153.out) | exact HB.out)⟩
     ·
      rw [if_neg c4] at H
      exact absurd H (by simp)
    ·
     rw [if_neg c3] at H
     have c3b0 : decide (x3_1 < (l0.length : Int)) = false := decide_eq_false c3
     clear c3
     have H' := zK H
     clear H
     go_wp2
     repeat (go_quiet (fail); try go_wp2)
     go_loopg [6] k1 (fun kq v6 w' => ∃ (x6_2 : Int), v6 = .int .i64 x6_2 ∧ Aside0 (spec_FilesFault.l1 kq l0 x6_2 = some r) ∧ Aside0 (kq ≤ k1) ∧ Aside0 (Below w.heap.size w w'))
     case atStart => exact ⟨(0), (by first | rfl | (simp; done) | (simp [*]; done)), H', ⟨Nat.le_refl _⟩, ⟨by repeat (first | (with_reducible first | exact HB.out | apply zA | apply zN | apply zD) | exact HB.out)⟩⟩
     case round =>
      clear H'
      try clear c1
      try clear p1
      try clear q1
      try clear hx1
      try clear c2
      try clear c2b0
      try clear c2b1
      try clear p2
      try clear c3
      try clear c3b0
      try clear c4
      try clear c4b0
      try clear c5
      try clear c6
      try clear c6b0
      try clear c6b1
      try clear p6
      try clear c11
      try clear c11b0
      try clear c11b1
      try clear c14
      try clear p15
      try clear q15
      try clear hx15
      try clear c16
      try clear c17
      try clear c17b0
      try clear c19
      try clear c19b0
      try clear c20
      try clear c20b0
      try clear c21
      try clear c21b0
      try clear hcz12_0
      try clear hcz12_1
      try clear hcz12_2
      try clear hcz13_0
      try clear hcz13_1
      try clear hcz13_2
      try clear hcz22_0
      try clear hcz22_1
      try clear hcz22_2
      try clear hcz23_0
      try clear hcz23_1
      try clear hcz23_2
      try clear hcz24_0
      try clear hcz24_1
      try clear hcz24_2
      try clear hcz25_0
      try clear hcz25_1
      try clear hcz25_2
      try clear hcz27_0
      try clear hcz27_1
      try clear hcz27_2
      try clear hcz9_0
      try clear hcz9_1
      try clear hcz9_2
      try clear hfz12_0
      try clear hfz12_1
      try clear hfz12_2
      try clear hfz13_0
      try clear hfz13_1
      try clear hfz13_2
      try clear hfz22_0
      try clear hfz22_1
      try clear hfz22_2
      try clear hfz23_0
      try clear hfz23_1
      try clear hfz23_2
      try clear hfz24_0
      try clear hfz24_1
      try clear hfz24_2
      try clear hfz25_0
      try clear hfz25_1
      try clear hfz25_2
      try clear hfz27_0
      try clear hfz27_1
      try clear hfz27_2
      try clear hfz9_0
      try clear hfz9_1
      try clear hfz9_2
      try clear hx152_0
      try clear hx152_1
      try clear hx152_2
      try clear hx156_0
      try clear hx156_1
      try clear hx156_2
      try clear p1
      try clear p152
      try clear p156
      try clear p2
      try clear q1
      try clear q152
      try clear q156
      obtain ⟨x6_2, rfl, HA, HK2, HB⟩ := hrel
      cases gk with
      | zero => exact absurd HA.out (by simp [spec_FilesFault.l1])
      | succ k2 =>
       have H := HA.out
       clear HA
       simp only [spec_FilesFault.l1] at H
       by_cases c29 : x6_2 < (l0.length : Int)
       ·
        rw [if_pos c29] at H
        have c29b0 : decide (x6_2 < (l0.length : Int)) = true := decide_eq_true c29
        clear c29
        have H' := zK H
        clear H
        go_wp2
        repeat (go_quiet (fail); try go_wp2)
        go_loopg [7] k2 (fun kq v7 w' => ∃ (x7_3 : Int), v7 = .int .i64 x7_3 ∧ Aside0 (spec_FilesFault.l2 kq l0 x6_2 x7_3 = some r) ∧ Aside0 (kq ≤ k2) ∧ Aside0 (Below w.heap.size w w'))
        case atStart => exact ⟨(0), (by first | rfl | (simp; done) | (simp [*]; done)), H', ⟨Nat.le_refl _⟩, ⟨by repeat (first | (with_reducible first | exact HB.out | apply zA | apply zN | apply zD) | exact HB.out)⟩⟩
        case round =>
         clear H'
         try clear c1
         try clear p1
         try clear q1
         try clear hx1
         try clear c2
         try clear c2b0
         try clear c2b1
         try clear p2
         try clear c3
         try clear c3b0
         try clear c4
         try clear c4b0
         try clear c5
         try clear c6
         try clear c6b0
         try clear c6b1
         try clear p6
         try clear c11
         try clear c11b0
         try clear c11b1
         try clear c14
         try clear p15
         try clear q15
         try clear hx15
         try clear c16
         try clear c17
         try clear c17b0
         try clear c19
         try clear c19b0
         try clear c20
         try clear c20b0
         try clear c21
         try clear c21b0
         try clear c29
         try clear c29b0
         try clear hcz12_0
         try clear hcz12_1
         try clear hcz12_2
         try clear hcz13_0
         try clear hcz13_1
         try clear hcz13_2
         try clear hcz22_0
         try clear hcz22_1
         try clear hcz22_2
         try clear hcz23_0
         try clear hcz23_1
         try clear hcz23_2
         try clear hcz24_0
         try clear hcz24_1
         try clear hcz24_2
         try clear hcz25_0
         try clear hcz25_1
         try clear hcz25_2
         try clear hcz27_0
         try clear hcz27_1
         try clear hcz27_2
         try clear hcz9_0
         try clear hcz9_1
         try clear hcz9_2
         try clear hfz12_0
         try clear hfz12_1
         try clear hfz12_2
         try clear hfz13_0
         try clear hfz13_1
         try clear hfz13_2
         try clear hfz22_0
         try clear hfz22_1
         try clear hfz22_2
         try clear hfz23_0
         try clear hfz23_1
         try clear hfz23_2
         try clear hfz24_0
         try clear hfz24_1
         try clear hfz24_2
         try clear hfz25_0
         try clear hfz25_1
         try clear hfz25_2
         try clear hfz27_0
         try clear hfz27_1
         try clear hfz27_2
         try clear hfz9_0
         try clear hfz9_1
         try clear hfz9_2
         try clear hx152_0
         try clear hx152_1
         try clear hx152_2
         try clear hx156_0
         try clear hx156_1
         try clear hx156_2
         try clear p1
         try clear p15
         try clear p152
         try clear p156
         try clear p2
         try clear p6
         try clear q1
         try clear q15
         try clear q152
         try clear q156
         obtain ⟨x7_3, rfl, HA, HK3, HB⟩ := hrel
         cases gk with
         | zero => exact absurd HA.out (by simp [spec_FilesFault.l2])
         | succ k3 =>
          have H := HA.out
          clear HA
          simp only [spec_FilesFault.l2] at H
          by_cases c30 : x7_3 < (l0.length : Int)
          ·
           rw [if_pos c30] at H
           have c30b0 : decide (x7_3 < (l0.length : Int)) = true := decide_eq_true c30
           clear c30
           by_cases c31 : 0 ≤ x6_2
           ·
            rw [if_pos c31] at H
            have c31b0 : decide (0 ≤ x6_2) = true := decide_eq_true c31
            clear c31
            by_cases c32 : x6_2 < (l0.length : Int)
            ·
             rw [if_pos c32] at H
             have c32b0 : decide (x6_2 < (l0.length : Int)) = true := decide_eq_true c32
             clear c32
             by_cases c33 : 0 ≤ x7_3
             ·
              rw [if_pos c33] at H
              have c33b0 : decide (0 ≤ x7_3) = true := decide_eq_true c33
              clear c33
              replace H := Option.bind_eq_some_iff.mp H
              obtain ⟨t159, A340, H⟩ := H
              replace H : (if t159 = true then (some 7) else (spec_FilesFault.l2 k3 l0 x6_2 (wrap64 (x7_3 + 1)))) = some r := H
              have A34 := zK A340
              clear A340
              by_cases c35 : t159 = true
              ·
               subst c35
               have H1 : (some 7) = some r := by rw [if_pos rfl] at H; exact H
               clear H
               have H := H1
               clear H1
               obtain rfl := Option.some.inj H
               have p157 : 0 ≤ (x6_2 : Int) := zX (by first | (with_reducible assumption) | assumption)
               have q157 : x6_2 < (l0.length : Int) := zX (by first | (with_reducible assumption) | assumption)
               obtain ⟨ad157, e157, hx157_0, hx157_1, hx157_2⟩ := at_T106 HR0.out x6_2 p157 q157
               cases e157
               replace hx157_0 := (HB.out.cell (zL w _ hx157_0)).trans hx157_0
               replace hx157_1 := (HB.out.cell (zL w _ hx157_1)).trans hx157_1
               replace hx157_2 := (HB.out.cell (zL w _ hx157_2)).trans hx157_2
               replace p157 := eq_true p157
               replace q157 := eq_true q157
               have p158 : 0 ≤ (x7_3 : Int) := zX (by first | (with_reducible assumption) | assumption)
               have q158 : x7_3 < (l0.length : Int) := zX (by first | (with_reducible assumption) | assumption)
               obtain ⟨ad158, e158, hx158_0, hx158_1, hx158_2⟩ := at_T106 HR0.out x7_3 p158 q158
               obtain rfl : ad157 = ad158 := (by injection e158)
               replace hx158_0 := (HB.out.cell (zL w _ hx158_0)).trans hx158_0
               replace hx158_1 := (HB.out.cell (zL w _ hx158_1)).trans hx158_1
               replace hx158_2 := (HB.out.cell (zL w _ hx158_2)).trans hx158_2
               replace p158 := eq_true p158
               replace q158 := eq_true q158
               go_wp2_with (first | (go_at_call 101; (with_reducible refine (spec_InDir.calls ((rd_T106 l0 x6_2).f0) ((rd_T106 l0 x7_3).f0) true _ A34.out).mono ?_); rintro e w' ⟨rfl, ⟨nd, rfl⟩⟩; (try first | exact ⟨rfl, _, World.drewN_drewN _ _ _⟩ | exact ⟨rfl, _, Eq.trans (World.drewN_drewN _ _ _) (congrArg (World.drewN _) (Nat.add_assoc _ _ _))⟩)))
               repeat (go_quiet (first | (go_at_call 101; (with_reducible refine (spec_InDir.calls ((rd_T106 l0 x6_2).f0) ((rd_T106 l0 x7_3).f0) true _ A34.out).mono ?_); rintro e w' ⟨rfl, ⟨nd, rfl⟩⟩; (try first | exact ⟨rfl, _, World.drewN_drewN _ _ _⟩ | exact ⟨rfl, _, Eq.trans (World.drewN_drewN _ _ _) (congrArg (World.drewN _) (Nat.add_assoc _ _ _))⟩))); try go_wp2_with (first | (go_at_call 101; (with_reducible refine (spec_InDir.calls ((rd_T106 l0 x6_2).f0) ((rd_T106 l0 x7_3).f0) true _ A34.out).mono ?_); rintro e w' ⟨rfl, ⟨nd, rfl⟩⟩; (try first | exact ⟨rfl, _, World.drewN_drewN _ _ _⟩ | exact ⟨rfl, _, Eq.trans (World.drewN_drewN _ _ _) (congrArg (World.drewN _) (Nat.add_assoc _ _ _))⟩))))
               go_ret
               exact ⟨by first | rfl | (simp [errW_none, errW_some] <;> rfl) | (simp [*, errW_none, errW_some] <;> rfl), by repeat (first | (with_reducible first | exact HB.out | apply zA | apply zN | apply zD) | exact HB.out)⟩
              ·
               replace c35 := Bool.eq_false_iff.mpr c35
               subst c35
               have H1 : (spec_FilesFault.l2 k3 l0 x6_2 (wrap64 (x7_3 + 1))) = some r := by rw [if_neg (show ¬ (false = true) by decide)] at H; exact H
               clear H
               have H := H1
               clear H1
               have H' := zK H
               clear H
               have p157 : 0 ≤ (x6_2 : Int) := zX (by first | (with_reducible assumption) | assumption)
               have q157 : x6_2 < (l0.length : Int) := zX (by first | (with_reducible assumption) | assumption)
               obtain ⟨ad157, e157, hx157_0, hx157_1, hx157_2⟩ := at_T106 HR0.out x6_2 p157 q157
               cases e157
               replace hx157_0 := (HB.out.cell (zL w _ hx157_0)).trans hx157_0
               replace hx157_1 := (HB.out.cell (zL w _ hx157_1)).trans hx157_1
               replace hx157_2 := (HB.out.cell (zL w _ hx157_2)).trans hx157_2
               replace p157 := eq_true p157
               replace q157 := eq_true q157
               have p158 : 0 ≤ (x7_3 : Int) := zX (by first | (with_reducible assumption) | assumption)
               have q158 : x7_3 < (l0.length : Int) := zX (by first | (with_reducible assumption) | assumption)
               obtain ⟨ad158, e158, hx158_0, hx158_1, hx158_2⟩ := at_T106 HR0.out x7_3 p158 q158
               obtain rfl : ad157 = ad158 := (by injection e158)
               replace hx158_0 := (HB.out.cell (zL w _ hx158_0)).trans hx158_0
               replace hx158_1 := (HB.out.cell (zL w _ hx158_1)).trans hx158_1
               replace hx158_2 := (HB.out.cell (zL w _ hx158_2)).trans hx158_2
               replace p158 := eq_true p158
               replace q158 := eq_true q158
               go_wp2_with (first | (go_at_call 101; (with_reducible refine (spec_InDir.calls ((rd_T106 l0 x6_2).f0) ((rd_T106 l0 x7_3).f0) false _ A34.out).mono ?_); rintro e w' ⟨rfl, ⟨nd, rfl⟩⟩; (try first | exact ⟨rfl, _, World.drewN_drewN _ _ _⟩ | exact ⟨rfl, _, Eq.trans (World.drewN_drewN _ _ _) (congrArg (World.drewN _) (Nat.add_assoc _ _ _))⟩)))
               repeat (go_quiet (first | (go_at_call 101; (with_reducible refine (spec_InDir.calls ((rd_T106 l0 x6_2).f0) ((rd_T106 l0 x7_3).f0) false _ A34.out).mono ?_); rintro e w' ⟨rfl, ⟨nd, rfl⟩⟩; (try first | exact ⟨rfl, _, World.drewN_drewN _ _ _⟩ | exact ⟨rfl, _, Eq.trans (World.drewN_drewN _ _ _) (congrArg (World.drewN _) (Nat.add_assoc _ _ _))⟩))); try go_wp2_with (first | (go_at_call 101; (with_reducible refine (spec_InDir.calls ((rd_T106 l0 x6_2).f0) ((rd_T106 l0 x7_3).f0) false _ A34.out).mono ?_); rintro e w' ⟨rfl, ⟨nd, rfl⟩⟩; (try first | exact ⟨rfl, _, World.drewN_drewN _ _ _⟩ | exact ⟨rfl, _, Eq.trans (World.drewN_drewN _ _ _) (congrArg (World.drewN _) (Nat.add_assoc _ _ _))⟩))))
               go_roundg k3
               case measure => have := HK1.out; have := HK2.out; have := HK3.out; omega
               case rel => exact ⟨(wrap64 (x7_3 + 1)), (by first | rfl | (simp; done) | (simp [*]; done)), H', ⟨by have := HK1.out; have := HK2.out; have := HK3.out; omega⟩, ⟨by repeat (first | (with_reducible first | exact HB.out | apply zA | apply zN | apply zD) | exact HB.out)⟩⟩
             ·
              rw [if_neg c33] at H
              exact absurd H (by simp)
            ·
             rw [if_neg c32] at H
             exact absurd H (by simp)
           ·
            rw [if_neg c31] at H
            exact absurd H (by simp)
          ·
           rw [if_neg c30] at H
           have c30b0 : decide (x7_3 < (l0.length : Int)) = false := decide_eq_false c30
           clear c30
           have H' := zK H
           clear H
           go_wp2
           repeat (go_quiet (fail); try go_wp2)
           go_roundg k3
           case measure => have := HK1.out; have := HK2.out; have := HK3.out; omega
           case rel => exact ⟨(wrap64 (x6_2 + 1)), (by first | rfl | (simp; done) | (simp [*]; done)), H', ⟨by have := HK1.out; have := HK2.out; have := HK3.out; omega⟩, ⟨by repeat (first | (with_reducible first | exact HB.out | apply zA | apply zN | apply zD) | exact HB.out)⟩⟩
       ·
        rw [if_neg c29] at H
        have c29b0 : decide (x6_2 < (l0.length : Int)) = false := decide_eq_false c29
        clear c29
        obtain rfl := Option.some.inj H
        go_wp2
        repeat (go_quiet (fail); try go_wp2)
        go_ret
        exact ⟨by first | rfl | (simp [errW_none, errW_some] <;> rfl) | (simp [*, errW_none, errW_some] <;> rfl), by repeat (first | (with_reducible first | exact HB.out | apply zA | apply zN | apply zD) | exact HB.out)⟩

end Go.Proofs.YtjibadlbiapcmaaDoor.PX
