/- Texts of this claim set one behind another by wip/bundle.py: PXf48, PXf88, PXf103, PXf150, XName, PXf104, PXf152, PXf176, PXf153, PXf53, PXf55, PXf167, PXf139, PXf42, PXf43, PXf94, PXf44, XMark. -/
import Derived.Test.YtjibadlbiapcmaaDoorBRP12
import Derived.Test.YtjibadlbiapcmaaDoorBRP7
namespace Go.Proofs.YtjibadlbiapcmaaDoor.PX
open Go.RowKit Go.Proofs.YtjibadlbiapcmaaDoorW.PrintWords Go.Proofs.YtjibadlbiapcmaaDoorW.PrintLast Go.Proofs.YtjibadlbiapcmaaDoorW.PrintMore
attribute [local go_sem] max2_int min2_int max_two min_two max_three min_three max_four min_four   -- for this text's walks alone
set_option linter.unusedVariables false
set_option linter.unusedSimpArgs false

/-! ### spec_IndexFault: function 48 -/
mutual
def spec_IndexFault.l0 : Nat → List (S80) → Int → Option (Int)
 | 0, _, _ => none
 | k + 1, x0, x3 => if x3 < (x0.length : Int) then (if 0 ≤ x3 then ((spec_PathFault.f k ((rd_T80 x0 x3).f0)).bind fun t568 => (if t568 = 0 then ((spec_l1In.f ((rd_T80 x0 x3).f1) 0 3).bind fun t569 => (if t569 = true then ((spec_l10Mode.f ((rd_T80 x0 x3).f2)).bind fun t570 => (spec_IndexFault.j1 k x0 x3 (!t570) ((rd_T80 x0 x3).f0) ((rd_T80 x0 x3).f1) ((rd_T80 x0 x3).f2) ((rd_T80 x0 x3).f3))) else (spec_IndexFault.j1 k x0 x3 true ((rd_T80 x0 x3).f0) ((rd_T80 x0 x3).f1) ((rd_T80 x0 x3).f2) ((rd_T80 x0 x3).f3)))) else (some t568))) else (none)) else (some 0)
def spec_IndexFault.j1 : Nat → List (S80) → Int → Bool → ByteArray → Int → Int → ByteArray → Option (Int)
 | 0, _, _, _, _, _, _, _ => none
 | k + 1, x0, x3, x34, x568000, x568001, x568002, x568003 => if x34 = true then (some 3) else ((spec_l6Is.f k x568003 1).bind fun t571 => (if t571 = true then (if x3 > 0 then (if 0 ≤ (wrap64 (x3 - 1)) then (if (wrap64 (x3 - 1)) < (x0.length : Int) then ((spec_l10Behind.f ((rd_T80 x0 (wrap64 (x3 - 1))).f0) ((rd_T80 x0 (wrap64 (x3 - 1))).f1) ((rd_T80 x0 (wrap64 (x3 - 1))).f2) ((rd_T80 x0 (wrap64 (x3 - 1))).f3) x568000 x568001 x568002 x568003).bind fun t573 => (if t573 = true then (spec_IndexFault.l0 k x0 (wrap64 (x3 + 1))) else (some 1))) else (none)) else (none)) else (spec_IndexFault.l0 k x0 (wrap64 (x3 + 1)))) else (some 1)))
end
def spec_IndexFault.f (k : Nat) (l0 : List (S80)) : Option (Int) := if (l0.length : Int) > 200 then (some 2) else (spec_IndexFault.l0 k l0 0)
theorem spec_IndexFault.mono_l : ∀ k, (∀ y0 y1, LeO (spec_IndexFault.l0 k y0 y1) (spec_IndexFault.l0 (k + 1) y0 y1)) ∧ (∀ y0 y1 y2 y3 y4 y5 y6, LeO (spec_IndexFault.j1 k y0 y1 y2 y3 y4 y5 y6) (spec_IndexFault.j1 (k + 1) y0 y1 y2 y3 y4 y5 y6))
 | 0 => ⟨fun _ _ r h => by simp [spec_IndexFault.l0] at h, fun _ _ _ _ _ _ _ r h => by simp [spec_IndexFault.j1] at h⟩
 | k + 1 => by
  obtain ⟨ih0, ih1⟩ := spec_IndexFault.mono_l k
  refine ⟨?_, ?_⟩
  ·
   intro y0 y1
   unfold spec_IndexFault.l0
   repeat' first
   | (with_reducible exact ih0 _ _)
   | (with_reducible exact ih1 _ _ _ _ _ _ _)
   | (with_reducible exact spec_PathFault.mono _ _)
   | (with_reducible exact spec_l6Is.mono _ _ _)
   | (with_reducible exact LeO.refl _)
   | (with_reducible exact LeO.none _)
   | (with_reducible refine LeO.ite ?_ ?_)
   | (with_reducible refine LeO.bind ?_ (fun _ => ?_))
   | exact ih0 _ _
   | exact ih1 _ _ _ _ _ _ _
   | exact spec_PathFault.mono _ _
   | exact spec_l6Is.mono _ _ _
   | exact LeO.none _
   | refine LeO.ite ?_ ?_
   | refine LeO.bind ?_ (fun _ => ?_)
  ·
   intro y0 y1 y2 y3 y4 y5 y6
   unfold spec_IndexFault.j1
   repeat' first
   | (with_reducible exact ih0 _ _)
   | (with_reducible exact ih1 _ _ _ _ _ _ _)
   | (with_reducible exact spec_PathFault.mono _ _)
   | (with_reducible exact spec_l6Is.mono _ _ _)
   | (with_reducible exact LeO.refl _)
   | (with_reducible exact LeO.none _)
   | (with_reducible refine LeO.ite ?_ ?_)
   | (with_reducible refine LeO.bind ?_ (fun _ => ?_))
   | exact ih0 _ _
   | exact ih1 _ _ _ _ _ _ _
   | exact spec_PathFault.mono _ _
   | exact spec_l6Is.mono _ _ _
   | exact LeO.none _
   | refine LeO.ite ?_ ?_
   | refine LeO.bind ?_ (fun _ => ?_)
theorem spec_IndexFault.mono : ∀ a0 k, LeO (spec_IndexFault.f k a0) (spec_IndexFault.f (k + 1) a0) := by
 intro a0 k
 obtain ⟨ih0, ih1⟩ := spec_IndexFault.mono_l k
 unfold spec_IndexFault.f
 repeat' first
   | (with_reducible exact ih0 _ _)
   | (with_reducible exact ih1 _ _ _ _ _ _ _)
   | (with_reducible exact spec_PathFault.mono _ _)
   | (with_reducible exact spec_l6Is.mono _ _ _)
   | (with_reducible exact LeO.refl _)
   | (with_reducible exact LeO.none _)
   | (with_reducible refine LeO.ite ?_ ?_)
   | (with_reducible refine LeO.bind ?_ (fun _ => ?_))
   | exact ih0 _ _
   | exact ih1 _ _ _ _ _ _ _
   | exact spec_PathFault.mono _ _
   | exact spec_l6Is.mono _ _ _
   | exact LeO.none _
   | refine LeO.ite ?_ ?_
   | refine LeO.bind ?_ (fun _ => ?_)
def spec_IndexFault.T12 : Bool × List (List Nat × List Nat) := (true, [([], []), ([0], [0]), ([1], [1]), ([2], [2]), ([3, 2], [3]), ([4], [4]), ([5, 4], [4, 5]), ([6, 4, 4], [4, 6]), ([7], [7]), ([7], [7]), ([9, 7], [7, 9]), ([8, 10, 7], [7, 8, 10]), ([11, 7], [7, 11]), ([7], [7]), ([12, 13, 7, 7], [7, 12, 13]), ([14, 7], [7, 14]), ([7, 15, 4], [4, 7, 15]), ([4, 16], [4, 16])])
def spec_IndexFault.B12 : List Nat := [0, 1, 3, 7, 15, 31, 63, 127, 255, 255, 767, 2047, 4095, 255, 16383, 32767, 65535, 131071]
theorem spec_IndexFault.tab12 : rtab .any (opsOf Tryd.f48 12) = spec_IndexFault.T12 := by kernel_rfl
theorem spec_IndexFault.bits12 : waitsOk spec_IndexFault.T12.2 spec_IndexFault.B12 = true := by kernel_rfl
set_option maxHeartbeats 8000000 in
set_option maxRecDepth 100000 in
theorem spec_IndexFault.calls (k : Nat) (A0 : Option Addr) (c0 : Nat) (l0 : List (S80)) (r : Int) (w : World) (hr0 : Kd.C k80 w A0 l0.length l0) (hc0 : l0.length ≤ c0) (h : spec_IndexFault.f k l0 = some r) :
  Calls Tryd.prog 48 #[.slice A0 l0.length c0] w fun e w' => e = .returned (.int .i64 r) ∧ Below w.heap.size w w' := by
 have hu80 := Tryd.underlying80
 have HR0 := zK hr0
 have HC0 := zK hc0
 clear hr0 hc0
 have HB := zK (Below.refl w.heap.size w)
 have H : (if (l0.length : Int) > 200 then (some 2) else (spec_IndexFault.l0 k l0 0)) = some r := h
 clear h
 by_cases c2 : (l0.length : Int) > 200
 ·
  rw [if_pos c2] at H
  have c2b0 : decide (200 < (l0.length : Int)) = true := decide_eq_true c2
  have c2b1 : decide (200 < l0.length) = true := decide_eq_true (by omega)
  clear c2
  obtain rfl := Option.some.inj H
  go_enter Tryd.func48, Tryd.ntmps48
  go_wp2
  go_ret
  exact ⟨by first | rfl | (simp [errW_none, errW_some] <;> rfl) | (simp [*, errW_none, errW_some] <;> rfl), by repeat (first | (with_reducible first | exact HB.out | apply zA | apply zN | apply zD) | exact HB.out)⟩
 ·
  rw [if_neg c2] at H
  have c2b0 : decide (200 < (l0.length : Int)) = false := decide_eq_false c2
  have c2b1 : decide (200 < l0.length) = false := decide_eq_false (by omega)
  clear c2
  have H' := zK H
  clear H
  go_enter Tryd.func48, Tryd.ntmps48
  go_wp2
  go_loopg [3] k (fun kq v3 w' => ∃ (x3_1 : Int), v3 = .int .i64 x3_1 ∧ Aside0 (spec_IndexFault.l0 kq l0 x3_1 = some r) ∧ Aside0 (kq ≤ k) ∧ Aside0 (Below w.heap.size w w'))
  case atStart => exact ⟨(0), (by first | rfl | (simp; done) | (simp [*]; done)), H', ⟨Nat.le_refl _⟩, ⟨by repeat (first | (with_reducible first | exact HB.out | apply zA | apply zN | apply zD) | exact HB.out)⟩⟩
  case round =>
   clear H'
   try clear c2
   try clear c2b0
   try clear c2b1
   try clear p2
   obtain ⟨x3_1, rfl, HA, HK1, HB⟩ := hrel
   cases gk with
   | zero => exact absurd HA.out (by simp [spec_IndexFault.l0])
   | succ k1 =>
    have H := HA.out
    clear HA
    simp only [spec_IndexFault.l0] at H
    by_cases c3 : x3_1 < (l0.length : Int)
    ·
     rw [if_pos c3] at H
     have c3b0 : decide (x3_1 < (l0.length : Int)) = true := decide_eq_true c3
     clear c3
     by_cases c4 : 0 ≤ x3_1
     ·
      rw [if_pos c4] at H
      have c4b0 : decide (0 ≤ x3_1) = true := decide_eq_true c4
      clear c4
      replace H := Option.bind_eq_some_iff.mp H
      obtain ⟨t568, A50, H⟩ := H
      replace H : (if t568 = 0 then ((spec_l1In.f ((rd_T80 l0 x3_1).f1) 0 3).bind fun t569 => (if t569 = true then ((spec_l10Mode.f ((rd_T80 l0 x3_1).f2)).bind fun t570 => (spec_IndexFault.j1 k1 l0 x3_1 (!t570) ((rd_T80 l0 x3_1).f0) ((rd_T80 l0 x3_1).f1) ((rd_T80 l0 x3_1).f2) ((rd_T80 l0 x3_1).f3))) else (spec_IndexFault.j1 k1 l0 x3_1 true ((rd_T80 l0 x3_1).f0) ((rd_T80 l0 x3_1).f1) ((rd_T80 l0 x3_1).f2) ((rd_T80 l0 x3_1).f3)))) else (some t568)) = some r := H
      have A5 := zK A50
      clear A50
      by_cases c6 : t568 = 0
      ·
       rw [if_pos c6] at H
       have c6b0 : (t568 == 0) = true := beq_iff_eq.mpr c6
       have c6b1 : (t568 != 0) = false := bne_eq_false_iff_eq.mpr c6
       clear c6
       have HC7 := zK H
       clear H
       have p566 : 0 ≤ (x3_1 : Int) := zX (by first | (with_reducible assumption) | assumption)
       have q566 : x3_1 < (l0.length : Int) := zX (by first | (with_reducible assumption) | assumption)
       obtain ⟨ad566, e566, hx566_0, hx566_1, hx566_2, hx566_3⟩ := at_T80 HR0.out x3_1 p566 q566
       cases e566
       replace hx566_0 := (HB.out.cell (zL w _ hx566_0)).trans hx566_0
       replace hx566_1 := (HB.out.cell (zL w _ hx566_1)).trans hx566_1
       replace hx566_2 := (HB.out.cell (zL w _ hx566_2)).trans hx566_2
       replace hx566_3 := (HB.out.cell (zL w _ hx566_3)).trans hx566_3
       replace p566 := eq_true p566
       replace q566 := eq_true q566
       go_upto_region 10 with (first | ((with_reducible refine gate_dst (N := 4) rfl ?_); refine box_event ?hg (N := 4) ?hd (cs := #[.string (⟨#[]⟩ : ByteArray), .int .i64 0, .int .i64 0, .string (⟨#[]⟩ : ByteArray)]) (t := 80) ?hr ?_; (case hd => rfl); (case hg => rfl); (case hr => first | (go_simp; done) | (go_simp; rfl)); intro gb567 hg w8 hbox hb; have n0_ := zK (below_step (by repeat (first | (with_reducible first | exact HB.out | apply zA | apply zN | apply zD) | exact HB.out)) hb); have n1_ := zK (hbox); have n2_ := zK ((by rw [hg]; exact (below_size (by repeat (first | (with_reducible first | exact HB.out | apply zA | apply zN | apply zD) | exact HB.out))) : w.heap.size ≤ gb567)); have n3_ := zK ((by rw [hg]; exact (below_size (by repeat (first | (with_reducible first | exact HB.out | apply zA | apply zN | apply zD) | exact HB.out))) : w.heap.size ≤ gb567)); clear HB; have HB := n0_; have BK567 := n1_; have GW567 := n2_; have GE567 := n3_; clear n0_ n1_ n2_ n3_; clear hb hbox hg; have hcz9_0 : w8.cell? ⟨gb567, 0, none⟩ = some (.string (⟨#[]⟩ : ByteArray)) := (blk_cell BK567.out 0).trans rfl; have hcz9_1 : w8.cell? ⟨gb567, 1, none⟩ = some (.int .i64 0) := (blk_cell BK567.out 1).trans rfl; have hcz9_2 : w8.cell? ⟨gb567, 2, none⟩ = some (.int .i64 0) := (blk_cell BK567.out 2).trans rfl; have hcz9_3 : w8.cell? ⟨gb567, 3, none⟩ = some (.string (⟨#[]⟩ : ByteArray)) := (blk_cell BK567.out 3).trans rfl; have hfz9_0 := blk_frozen BK567.out 0; have hfz9_1 := blk_frozen BK567.out 1; have hfz9_2 := blk_frozen BK567.out 2; have hfz9_3 := blk_frozen BK567.out 3) | ((with_reducible refine gate_callee (f := 97) rfl ?_); refine goesL_ (some 21) rfl rfl Tryd.func97 (by kernel_rfl) rfl #[.string ((rd_T80 l0 x3_1).f0)] rfl (by (try simp only [List.map_toArray, List.map_cons, List.map_nil]); first | done | rfl | (simp only [List.length_drop, List.length_take]; rfl)) ?_; (with_reducible refine (spec_PathFault.calls k1 ((rd_T80 l0 x3_1).f0) t568 _ A5.out).mono ?_); rintro e w10 ⟨rfl, hb⟩; refine ⟨_, rfl, ?_⟩; have n0_ := zK (blk_below (g := gb567) (o := .cells #[.string ((rd_T80 l0 x3_1).f0), .int .i64 ((rd_T80 l0 x3_1).f1), .int .i64 ((rd_T80 l0 x3_1).f2), .string ((rd_T80 l0 x3_1).f3)] 80 (0, 0)) (by (with_reducible repeat (first | refine zM ?_ _ | refine zP ?_ | refine zQ ?_ _)); refine blk_put (cs := #[.string ((rd_T80 l0 x3_1).f0), .int .i64 ((rd_T80 l0 x3_1).f1), .int .i64 ((rd_T80 l0 x3_1).f2), .string (⟨#[]⟩ : ByteArray)]) ?_ 3 _ rfl; (with_reducible repeat (first | refine zM ?_ _ | refine zP ?_ | refine zQ ?_ _)); refine blk_put (cs := #[.string ((rd_T80 l0 x3_1).f0), .int .i64 ((rd_T80 l0 x3_1).f1), .int .i64 0, .string (⟨#[]⟩ : ByteArray)]) ?_ 2 _ rfl; (with_reducible repeat (first | refine zM ?_ _ | refine zP ?_ | refine zQ ?_ _)); refine blk_put (cs := #[.string ((rd_T80 l0 x3_1).f0), .int .i64 0, .int .i64 0, .string (⟨#[]⟩ : ByteArray)]) ?_ 1 _ rfl; (with_reducible repeat (first | refine zM ?_ _ | refine zP ?_ | refine zQ ?_ _)); refine blk_put (cs := #[.string (⟨#[]⟩ : ByteArray), .int .i64 0, .int .i64 0, .string (⟨#[]⟩ : ByteArray)]) ?_ 0 _ rfl; (with_reducible repeat (first | refine zM ?_ _ | refine zP ?_ | refine zQ ?_ _)); exact BK567.out) hb); have n1_ := zK (below_step (by repeat (first | (with_reducible first | exact HB.out | apply zA | apply zN | apply zD | refine below_set ?_ GE567.out) | exact HB.out)) hb); clear BK567; clear HB; have BK567 := n0_; have HB := n1_; clear n0_ n1_; (try clear hb); (try clear hb2); (try clear hk); (try clear hi)))
       (try simp only [Act.put, zS, zT, zU])
       go_cut [34] (fun v34 wc => ∃ (kq : Nat) (x34_6 : Bool), v34 = .bool x34_6 ∧ Aside0 (spec_IndexFault.j1 kq l0 x3_1 x34_6 ((rd_T80 l0 x3_1).f0) ((rd_T80 l0 x3_1).f1) ((rd_T80 l0 x3_1).f2) ((rd_T80 l0 x3_1).f3) = some r) ∧ Aside0 (kq ≤ k1) ∧ Aside0 (wc.heap[gb567]? = some (.cells #[.string ((rd_T80 l0 x3_1).f0), .int .i64 ((rd_T80 l0 x3_1).f1), .int .i64 ((rd_T80 l0 x3_1).f2), .string ((rd_T80 l0 x3_1).f3)] 80 (0, 0))) ∧ Aside0 (Below w.heap.size w wc))
       case first =>
        have H := HC7.out
        clear HC7
        replace H := Option.bind_eq_some_iff.mp H
        obtain ⟨t569, A110, H⟩ := H
        replace H : (if t569 = true then ((spec_l10Mode.f ((rd_T80 l0 x3_1).f2)).bind fun t570 => (spec_IndexFault.j1 k1 l0 x3_1 (!t570) ((rd_T80 l0 x3_1).f0) ((rd_T80 l0 x3_1).f1) ((rd_T80 l0 x3_1).f2) ((rd_T80 l0 x3_1).f3))) else (spec_IndexFault.j1 k1 l0 x3_1 true ((rd_T80 l0 x3_1).f0) ((rd_T80 l0 x3_1).f1) ((rd_T80 l0 x3_1).f2) ((rd_T80 l0 x3_1).f3))) = some r := H
        have A11 := zK A110
        clear A110
        by_cases c12 : t569 = true
        ·
         subst c12
         have H1 : ((spec_l10Mode.f ((rd_T80 l0 x3_1).f2)).bind fun t570 => (spec_IndexFault.j1 k1 l0 x3_1 (!t570) ((rd_T80 l0 x3_1).f0) ((rd_T80 l0 x3_1).f1) ((rd_T80 l0 x3_1).f2) ((rd_T80 l0 x3_1).f3))) = some r := by rw [if_pos rfl] at H; exact H
         clear H
         have H := H1
         clear H1
         replace H := Option.bind_eq_some_iff.mp H
         obtain ⟨t570, A130, H⟩ := H
         replace H : (spec_IndexFault.j1 k1 l0 x3_1 (!t570) ((rd_T80 l0 x3_1).f0) ((rd_T80 l0 x3_1).f1) ((rd_T80 l0 x3_1).f2) ((rd_T80 l0 x3_1).f3)) = some r := H
         have A13 := zK A130
         clear A130
         have H' := zK H
         clear H
         have hcz14_0 : w10.cell? ⟨gb567, 0, none⟩ = some (.string ((rd_T80 l0 x3_1).f0)) := (blk_cell BK567.out 0).trans rfl
         have hcz14_1 : w10.cell? ⟨gb567, 1, none⟩ = some (.int .i64 ((rd_T80 l0 x3_1).f1)) := (blk_cell BK567.out 1).trans rfl
         have hcz14_2 : w10.cell? ⟨gb567, 2, none⟩ = some (.int .i64 ((rd_T80 l0 x3_1).f2)) := (blk_cell BK567.out 2).trans rfl
         have hcz14_3 : w10.cell? ⟨gb567, 3, none⟩ = some (.string ((rd_T80 l0 x3_1).f3)) := (blk_cell BK567.out 3).trans rfl
         have hfz14_0 := blk_frozen BK567.out 0
         have hfz14_1 := blk_frozen BK567.out 1
         have hfz14_2 := blk_frozen BK567.out 2
         have hfz14_3 := blk_frozen BK567.out 3
         go_wp2_with (first | ((with_reducible refine gate_callee (f := 98) rfl ?_); refine goesL_ (some 27) rfl rfl Tryd.func98 (by kernel_rfl) rfl #[.int .i64 ((rd_T80 l0 x3_1).f1), .int .i64 0, .int .i64 3] rfl (by (try simp only [List.map_toArray, List.map_cons, List.map_nil]); first | done | rfl | (simp only [List.length_drop, List.length_take]; rfl)) ?_; (with_reducible refine (spec_l1In.calls ((rd_T80 l0 x3_1).f1) 0 3 true _ A11.out).mono ?_); rintro e w' ⟨rfl, ⟨nd, rfl⟩⟩; refine ⟨_, rfl, ?_⟩) | (go_at_call 89; (with_reducible refine (spec_l10Mode.calls ((rd_T80 l0 x3_1).f2) t570 _ A13.out).mono ?_); rintro e w' ⟨rfl, ⟨nd, rfl⟩⟩))
         go_meet
         case rel => exact ⟨_, (!t570), (by first | rfl | (simp; done) | (simp [*]; done)), H', ⟨by have := HK1.out; first | omega | exact Nat.le_refl _⟩, ⟨by (with_reducible repeat (first | refine zM ?_ _ | refine zP ?_ | refine zQ ?_ _)); exact BK567.out⟩, ⟨by repeat (first | (with_reducible first | exact HB.out | apply zA | apply zN | apply zD | refine below_set ?_ GE567.out) | exact HB.out)⟩⟩
        ·
         replace c12 := Bool.eq_false_iff.mpr c12
         subst c12
         have H1 : (spec_IndexFault.j1 k1 l0 x3_1 true ((rd_T80 l0 x3_1).f0) ((rd_T80 l0 x3_1).f1) ((rd_T80 l0 x3_1).f2) ((rd_T80 l0 x3_1).f3)) = some r := by rw [if_neg (show ¬ (false = true) by decide)] at H; exact H
         clear H
         have H := H1
         clear H1
         have H' := zK H
         clear H
         have hcz15_0 : w10.cell? ⟨gb567, 0, none⟩ = some (.string ((rd_T80 l0 x3_1).f0)) := (blk_cell BK567.out 0).trans rfl
         have hcz15_1 : w10.cell? ⟨gb567, 1, none⟩ = some (.int .i64 ((rd_T80 l0 x3_1).f1)) := (blk_cell BK567.out 1).trans rfl
         have hcz15_2 : w10.cell? ⟨gb567, 2, none⟩ = some (.int .i64 ((rd_T80 l0 x3_1).f2)) := (blk_cell BK567.out 2).trans rfl
         have hcz15_3 : w10.cell? ⟨gb567, 3, none⟩ = some (.string ((rd_T80 l0 x3_1).f3)) := (blk_cell BK567.out 3).trans rfl
         have hfz15_0 := blk_frozen BK567.out 0
         have hfz15_1 := blk_frozen BK567.out 1
         have hfz15_2 := blk_frozen BK567.out 2
         have hfz15_3 := blk_frozen BK567.out 3
         go_wp2_with (first | ((with_reducible refine gate_callee (f := 98) rfl ?_); refine goesL_ (some 27) rfl rfl Tryd.func98 (by kernel_rfl) rfl #[.int .i64 ((rd_T80 l0 x3_1).f1), .int .i64 0, .int .i64 3] rfl (by (try simp only [List.map_toArray, List.map_cons, List.map_nil]); first | done | rfl | (simp only [List.length_drop, List.length_take]; rfl)) ?_; (with_reducible refine (spec_l1In.calls ((rd_T80 l0 x3_1).f1) 0 3 false _ A11.out).mono ?_); rintro e w' ⟨rfl, ⟨nd, rfl⟩⟩; refine ⟨_, rfl, ?_⟩))
         go_meet
         case rel => exact ⟨_, (true), (by first | rfl | (simp; done) | (simp [*]; done)), H', ⟨by have := HK1.out; first | omega | exact Nat.le_refl _⟩, ⟨by (with_reducible repeat (first | refine zM ?_ _ | refine zP ?_ | refine zQ ?_ _)); exact BK567.out⟩, ⟨by repeat (first | (with_reducible first | exact HB.out | apply zA | apply zN | apply zD | refine below_set ?_ GE567.out) | exact HB.out)⟩⟩
       case rest =>
        clear HC7
        try clear c1
        try clear c2
        try clear c2b0
        try clear c2b1
        try clear p2
        try clear c3
        try clear c3b0
        try clear c4
        try clear c4b0
        try clear p5
        try clear q5
        try clear hx5
        try clear c6
        try clear c6b0
        try clear c6b1
        try clear c9
        try clear c12
        try clear hcz14_0
        try clear hcz14_1
        try clear hcz14_2
        try clear hcz14_3
        try clear hcz15_0
        try clear hcz15_1
        try clear hcz15_2
        try clear hcz15_3
        try clear hcz9_0
        try clear hcz9_1
        try clear hcz9_2
        try clear hcz9_3
        try clear hfz14_0
        try clear hfz14_1
        try clear hfz14_2
        try clear hfz14_3
        try clear hfz15_0
        try clear hfz15_1
        try clear hfz15_2
        try clear hfz15_3
        try clear hfz9_0
        try clear hfz9_1
        try clear hfz9_2
        try clear hfz9_3
        try clear hx566_0
        try clear hx566_1
        try clear hx566_2
        try clear hx566_3
        try clear p2
        try clear p566
        try clear q566
        obtain ⟨kq, x34_6, rfl, HA, HJ6, BK567, HB⟩ := hcut
        cases kq with
        | zero => exact absurd HA.out (by simp [spec_IndexFault.j1])
        | succ kj6 =>
         have H := HA.out
         clear HA
         simp only [spec_IndexFault.j1] at H
         by_cases c16 : x34_6 = true
         ·
          subst c16
          have H1 : (some 3) = some r := by rw [if_pos rfl] at H; exact H
          clear H
          have H := H1
          clear H1
          obtain rfl := Option.some.inj H
          go_wp2
          go_ret
          exact ⟨by first | rfl | (simp [errW_none, errW_some] <;> rfl) | (simp [*, errW_none, errW_some] <;> rfl), by repeat (first | (with_reducible first | exact HB.out | apply zA | apply zN | apply zD | refine below_set ?_ GE567.out) | exact HB.out)⟩
         ·
          replace c16 := Bool.eq_false_iff.mpr c16
          subst c16
          have H1 : ((spec_l6Is.f kj6 ((rd_T80 l0 x3_1).f3) 1).bind fun t571 => (if t571 = true then (if x3_1 > 0 then (if 0 ≤ (wrap64 (x3_1 - 1)) then (if (wrap64 (x3_1 - 1)) < (l0.length : Int) then ((spec_l10Behind.f ((rd_T80 l0 (wrap64 (x3_1 - 1))).f0) ((rd_T80 l0 (wrap64 (x3_1 - 1))).f1) ((rd_T80 l0 (wrap64 (x3_1 - 1))).f2) ((rd_T80 l0 (wrap64 (x3_1 - 1))).f3) ((rd_T80 l0 x3_1).f0) ((rd_T80 l0 x3_1).f1) ((rd_T80 l0 x3_1).f2) ((rd_T80 l0 x3_1).f3)).bind fun t573 => (if t573 = true then (spec_IndexFault.l0 kj6 l0 (wrap64 (x3_1 + 1))) else (some 1))) else (none)) else (none)) else (spec_IndexFault.l0 kj6 l0 (wrap64 (x3_1 + 1)))) else (some 1))) = some r := by rw [if_neg (show ¬ (false = true) by decide)] at H; exact H
          clear H
          have H := H1
          clear H1
          replace H := Option.bind_eq_some_iff.mp H
          obtain ⟨t571, A170, H⟩ := H
          replace H : (if t571 = true then (if x3_1 > 0 then (if 0 ≤ (wrap64 (x3_1 - 1)) then (if (wrap64 (x3_1 - 1)) < (l0.length : Int) then ((spec_l10Behind.f ((rd_T80 l0 (wrap64 (x3_1 - 1))).f0) ((rd_T80 l0 (wrap64 (x3_1 - 1))).f1) ((rd_T80 l0 (wrap64 (x3_1 - 1))).f2) ((rd_T80 l0 (wrap64 (x3_1 - 1))).f3) ((rd_T80 l0 x3_1).f0) ((rd_T80 l0 x3_1).f1) ((rd_T80 l0 x3_1).f2) ((rd_T80 l0 x3_1).f3)).bind fun t573 => (if t573 = true then (spec_IndexFault.l0 kj6 l0 (wrap64 (x3_1 + 1))) else (some 1))) else (none)) else (none)) else (spec_IndexFault.l0 kj6 l0 (wrap64 (x3_1 + 1)))) else (some 1)) = some r := H
          have A17 := zK A170
          clear A170
          by_cases c18 : t571 = true
          ·
           subst c18
           have H1 : (if x3_1 > 0 then (if 0 ≤ (wrap64 (x3_1 - 1)) then (if (wrap64 (x3_1 - 1)) < (l0.length : Int) then ((spec_l10Behind.f ((rd_T80 l0 (wrap64 (x3_1 - 1))).f0) ((rd_T80 l0 (wrap64 (x3_1 - 1))).f1) ((rd_T80 l0 (wrap64 (x3_1 - 1))).f2) ((rd_T80 l0 (wrap64 (x3_1 - 1))).f3) ((rd_T80 l0 x3_1).f0) ((rd_T80 l0 x3_1).f1) ((rd_T80 l0 x3_1).f2) ((rd_T80 l0 x3_1).f3)).bind fun t573 => (if t573 = true then (spec_IndexFault.l0 kj6 l0 (wrap64 (x3_1 + 1))) else (some 1))) else (none)) else (none)) else (spec_IndexFault.l0 kj6 l0 (wrap64 (x3_1 + 1)))) = some r := by rw [if_pos rfl] at H; exact H
           clear H
           have H := H1
           clear H1
           by_cases c19 : x3_1 > 0
           ·
            rw [if_pos c19] at H
            have c19b0 : decide (0 < x3_1) = true := decide_eq_true c19
            clear c19
            obtain ⟨ji20, hji20⟩ : ∃ j_ : Int, (wrap64 (x3_1 - 1)) = j_ := ⟨_, rfl⟩
            replace H : (if 0 ≤ (ji20) then (if (ji20) < (l0.length : Int) then ((spec_l10Behind.f ((rd_T80 l0 (ji20)).f0) ((rd_T80 l0 (ji20)).f1) ((rd_T80 l0 (ji20)).f2) ((rd_T80 l0 (ji20)).f3) ((rd_T80 l0 x3_1).f0) ((rd_T80 l0 x3_1).f1) ((rd_T80 l0 x3_1).f2) ((rd_T80 l0 x3_1).f3)).bind fun t573 => (if t573 = true then (spec_IndexFault.l0 kj6 l0 (wrap64 (x3_1 + 1))) else (some 1))) else (none)) else (none)) = some r := by first | (rw [hji20] at H; exact H) | (simp only [hji20] at H ⊢; exact H)
            (try rw [hji20] at A17)
            have hji20w : (IntKind.i64.wrap (x3_1 - 1)) = ji20 := (i64_w _).trans hji20
            by_cases c21 : 0 ≤ (ji20)
            ·
             rw [if_pos c21] at H
             have c21b0 : decide (0 ≤ (ji20)) = true := decide_eq_true c21
             clear c21
             by_cases c22 : (ji20) < (l0.length : Int)
             ·
              rw [if_pos c22] at H
              have c22b0 : decide ((ji20) < (l0.length : Int)) = true := decide_eq_true c22
              clear c22
              replace H := Option.bind_eq_some_iff.mp H
              obtain ⟨t573, A230, H⟩ := H
              replace H : (if t573 = true then (spec_IndexFault.l0 kj6 l0 (wrap64 (x3_1 + 1))) else (some 1)) = some r := H
              have A23 := zK A230
              clear A230
              by_cases c24 : t573 = true
              ·
               subst c24
               have H1 : (spec_IndexFault.l0 kj6 l0 (wrap64 (x3_1 + 1))) = some r := by rw [if_pos rfl] at H; exact H
               clear H
               have H := H1
               clear H1
               have H' := zK H
               clear H
               try go_wp2
               have n0_ := zK (zP BK567.out)
               have n1_ := zK (zD HB.out)
               clear BK567
               clear HB
               have BK567 := n0_
               have HB := n1_
               clear n0_ n1_
               have p572 : 0 ≤ ((ji20) : Int) := zX (by first | (with_reducible assumption) | assumption)
               have q572 : (ji20) < (l0.length : Int) := zX (by first | (with_reducible assumption) | assumption)
               obtain ⟨ad572, e572, hx572_0, hx572_1, hx572_2, hx572_3⟩ := at_T80 HR0.out (ji20) p572 q572
               have hw572_3 := hx572_3
               have hw572_2 := hx572_2
               have hw572_1 := hx572_1
               have hw572_0 := hx572_0
               obtain rfl : ad566 = ad572 := (by injection e572)
               replace hx572_0 := (HB.out.cell (zL w _ hx572_0)).trans hx572_0
               replace hx572_1 := (HB.out.cell (zL w _ hx572_1)).trans hx572_1
               replace hx572_2 := (HB.out.cell (zL w _ hx572_2)).trans hx572_2
               replace hx572_3 := (HB.out.cell (zL w _ hx572_3)).trans hx572_3
               replace p572 := eq_true p572
               replace q572 := eq_true q572
               refine start_ (n := 18) (S := fun w' => w'.cell? ⟨gb567, 0, none⟩ = some (.string ((rd_T80 l0 x3_1).f0)) ∧ w'.cell? ⟨gb567, 1, none⟩ = some (.int .i64 ((rd_T80 l0 x3_1).f1)) ∧ w'.cell? ⟨gb567, 2, none⟩ = some (.int .i64 ((rd_T80 l0 x3_1).f2)) ∧ w'.cell? ⟨gb567, 3, none⟩ = some (.string ((rd_T80 l0 x3_1).f3)) ∧ w'.cell? (ad566.add (((ji20)).toNat * 4)) = some (.string ((rd_T80 l0 (ji20)).f0)) ∧ w'.cell? ⟨(ad566.add (((ji20)).toNat * 4)).block, (ad566.add (((ji20)).toNat * 4)).off + 1, none⟩ = some (.int .i64 ((rd_T80 l0 (ji20)).f1)) ∧ w'.cell? ⟨(ad566.add (((ji20)).toNat * 4)).block, (ad566.add (((ji20)).toNat * 4)).off + 2, none⟩ = some (.int .i64 ((rd_T80 l0 (ji20)).f2)) ∧ w'.cell? ⟨(ad566.add (((ji20)).toNat * 4)).block, (ad566.add (((ji20)).toNat * 4)).off + 3, none⟩ = some (.string ((rd_T80 l0 (ji20)).f3))) (ds := []) #[zF,zF,zF,zF,zF,zF,zF,zF,zF,zF,zF,zF,zF,zF,zF,zF,zF,zF] (by kernel_rfl) rfl rfl ⟨(blk_cell BK567.out 0).trans rfl, (blk_cell BK567.out 1).trans rfl, (blk_cell BK567.out 2).trans rfl, (blk_cell BK567.out 3).trans rfl, ((HB.out.cell (zL w _ hw572_0)).trans hw572_0), ((HB.out.cell (zL w _ hw572_1)).trans hw572_1), ((HB.out.cell (zL w _ hw572_2)).trans hw572_2), ((HB.out.cell (zL w _ hw572_3)).trans hw572_3)⟩ (fun hHeld => ?_); refine with_tabW spec_IndexFault.tab12 spec_IndexFault.bits12 (fun HT_ HW_ => ?_)
               generalize wc.drew = w25 at BK567 HB hx572_0 hx572_1 hx572_2 hx572_3 hHeld ⊢
               refine pure_ (i := 0) (N := some 35) (v := ?_) (a' := ?_) #[zB,zF,zF,zF,zF,zF,zF,zF,zF,zF,zF,zF,zF,zF,zF,zF,zF,zF] rfl rfl (any_of HT_.out (by kernel_rfl)) (fun _ _ _ h => h) (Or.inl ⟨by rfl, ?_⟩) ?_ ?_
               rotate_left
               ·
                intro w'
                go_simp
                with_reducible rfl
               rotate_left
               ·
                simp only [Act.put, zS, zT, zU, i64_w, i32_w]
                rfl
               refine take_ (i := 1) (N := some 36) (v := ?_) (a' := ?_) #[zB,zB,zF,zF,zF,zF,zF,zF,zF,zF,zF,zF,zF,zF,zF,zF,zF,zF] rfl rfl (take_ofW HT_.out HW_.out (by kernel_rfl)) (fun _ _ _ h => h) (Or.inl ⟨by rfl, ?_⟩) hHeld ?_ ?_
               rotate_left
               ·
                rintro w' ⟨s0, s1, s2, s3, s4, s5, s6, s7⟩
                go_simp
                with_reducible rfl
               rotate_left
               ·
                simp only [Act.put, zS, zT, zU, i64_w, i32_w]
                rfl
               refine one_ (i := 2) (N := some 37) #[zB,zB,zB,zF,zF,zF,zF,zF,zF,zF,zF,zF,zF,zF,zF,zF,zF,zF] rfl rfl (one_of HT_.out (by kernel_rfl)) (by decide) (fun K hK => ?_)
               refine goes_ Tryd.func90 (by kernel_rfl) rfl #[.string ((rd_T80 l0 x3_1).f3), .int .i64 1] (by rfl) rfl rfl (by (try simp only [List.map_toArray, List.map_cons, List.map_nil]); first | done | rfl | (simp only [List.length_drop, List.length_take]; rfl)) ?_
               with_reducible refine (spec_l6Is.calls kj6 ((rd_T80 l0 x3_1).f3) 1 true _ A17.out).mono ?_
               rintro e w' ⟨rfl, ⟨nd, rfl⟩⟩
               refine ⟨_, rfl, ?_⟩
               refine hK.out _ _ ⟨(blk_cell BK567.out 0).trans rfl, (blk_cell BK567.out 1).trans rfl, (blk_cell BK567.out 2).trans rfl, (blk_cell BK567.out 3).trans rfl, ((HB.out.cell (zL w _ hw572_0)).trans hw572_0), ((HB.out.cell (zL w _ hw572_1)).trans hw572_1), ((HB.out.cell (zL w _ hw572_2)).trans hw572_2), ((HB.out.cell (zL w _ hw572_3)).trans hw572_3)⟩ (fun hHeld => ?_)
               clear hK K
               refine norm_ (a' := ?_) ?_ ?_
               rotate_left
               ·
                show Act.put _ (some 37) _ = _
                simp only [Act.put, zS, zT, zU, i64_w, i32_w]
                rfl
               refine pure_ (i := 3) (N := some 38) (v := ?_) (a' := ?_) #[zB,zB,zB,zB,zF,zF,zF,zF,zF,zF,zF,zF,zF,zF,zF,zF,zF,zF] rfl rfl (any_of HT_.out (by kernel_rfl)) (fun _ _ _ h => h) (Or.inl ⟨by rfl, ?_⟩) ?_ ?_
               rotate_left
               ·
                intro w'
                go_simp
                with_reducible rfl
               rotate_left
               ·
                simp only [Act.put, zS, zT, zU, i64_w, i32_w]
                rfl
               refine pure_ (i := 4) (N := some 39) (v := ?_) (a' := ?_) #[zB,zB,zB,zB,zB,zF,zF,zF,zF,zF,zF,zF,zF,zF,zF,zF,zF,zF] rfl rfl (any_of HT_.out (by kernel_rfl)) (fun _ _ _ h => h) (Or.inl ⟨by rfl, ?_⟩) ?_ ?_
               rotate_left
               ·
                intro w'
                go_simp
                with_reducible rfl
               rotate_left
               ·
                simp only [Act.put, zS, zT, zU, i64_w, i32_w]
                rfl
               refine pure_ (i := 5) (N := some 40) (v := ?_) (a' := ?_) #[zB,zB,zB,zB,zB,zB,zF,zF,zF,zF,zF,zF,zF,zF,zF,zF,zF,zF] rfl rfl (any_of HT_.out (by kernel_rfl)) (fun _ _ _ h => h) (Or.inl ⟨by rfl, ?_⟩) ?_ ?_
               rotate_left
               ·
                intro w'
                go_simp
                with_reducible rfl
               rotate_left
               ·
                simp only [Act.put, zS, zT, zU, i64_w, i32_w]
                rfl
               refine pure_ (i := 6) (N := some 41) (v := ?_) (a' := ?_) #[zB,zB,zB,zB,zB,zB,zB,zF,zF,zF,zF,zF,zF,zF,zF,zF,zF,zF] rfl rfl (any_of HT_.out (by kernel_rfl)) (fun _ _ _ h => h) (Or.inl ⟨by rfl, ?_⟩) ?_ ?_
               rotate_left
               ·
                intro w'
                go_simp
                with_reducible rfl
               rotate_left
               ·
                simp only [Act.put, zS, zT, zU, i64_w, i32_w]
                rfl
               refine pure_ (i := 7) (N := some 42) (v := ?_) (a' := ?_) #[zB,zB,zB,zB,zB,zB,zB,zB,zF,zF,zF,zF,zF,zF,zF,zF,zF,zF] rfl rfl (any_of HT_.out (by kernel_rfl)) (fun _ _ _ h => h) (Or.inl ⟨by rfl, ?_⟩) ?_ ?_
               rotate_left
               ·
                intro w'
                go_simp
                with_reducible rfl
               rotate_left
               ·
                simp only [Act.put, zS, zT, zU, i64_w, i32_w]
                rfl
               refine pure_ (i := 8) (N := some 43) (v := ?_) (a' := ?_) #[zB,zB,zB,zB,zB,zB,zB,zB,zB,zF,zF,zF,zF,zF,zF,zF,zF,zF] rfl rfl (any_of HT_.out (by kernel_rfl)) (fun _ _ _ h => h) (Or.inl ⟨by rfl, ?_⟩) ?_ ?_
               rotate_left
               ·
                intro w'
                go_simp
                with_reducible rfl
               rotate_left
               ·
                simp only [Act.put, zS, zT, zU, i64_w, i32_w]
                rfl
               refine pure_ (i := 9) (N := some 44) (v := ?_) (a' := ?_) #[zB,zB,zB,zB,zB,zB,zB,zB,zB,zB,zF,zF,zF,zF,zF,zF,zF,zF] rfl rfl (any_of HT_.out (by kernel_rfl)) (fun _ _ _ h => h) (Or.inl ⟨by rfl, ?_⟩) ?_ ?_
               rotate_left
               ·
                intro w'
                go_simp
                with_reducible rfl
               rotate_left
               ·
                simp only [Act.put, zS, zT, zU, i64_w, i32_w]
                rfl
               refine pure_ (i := 10) (N := some 45) (v := ?_) (a' := ?_) #[zB,zB,zB,zB,zB,zB,zB,zB,zB,zB,zB,zF,zF,zF,zF,zF,zF,zF] rfl rfl (any_of HT_.out (by kernel_rfl)) (fun _ _ _ h => h) (Or.inl ⟨by rfl, ?_⟩) ?_ ?_
               rotate_left
               ·
                intro w'
                go_simp
                with_reducible rfl
               rotate_left
               ·
                simp only [Act.put, zS, zT, zU, i64_w, i32_w]
                rfl
               refine pure_ (i := 11) (N := some 46) (v := ?_) (a' := ?_) #[zB,zB,zB,zB,zB,zB,zB,zB,zB,zB,zB,zB,zF,zF,zF,zF,zF,zF] rfl rfl (any_of HT_.out (by kernel_rfl)) (fun _ _ _ h => h) (Or.inl ⟨by rfl, ?_⟩) ?_ ?_
               rotate_left
               ·
                intro w'
                go_simp
                with_reducible rfl
               rotate_left
               ·
                simp only [Act.put, zS, zT, zU, i64_w, i32_w]
                rfl
               refine take_ (i := 12) (N := some 47) (v := ?_) (a' := ?_) #[zB,zB,zB,zB,zB,zB,zB,zB,zB,zB,zB,zB,zB,zF,zF,zF,zF,zF] rfl rfl (take_ofW HT_.out HW_.out (by kernel_rfl)) (fun _ _ _ h => h) (Or.inl ⟨by rfl, ?_⟩) hHeld ?_ ?_
               rotate_left
               ·
                rintro w' ⟨s0, s1, s2, s3, s4, s5, s6, s7⟩
                go_simp
                with_reducible rfl
               rotate_left
               ·
                simp only [Act.put, zS, zT, zU, i64_w, i32_w]
                rfl
               refine take_ (i := 13) (N := some 48) (v := ?_) (a' := ?_) #[zB,zB,zB,zB,zB,zB,zB,zB,zB,zB,zB,zB,zB,zB,zF,zF,zF,zF] rfl rfl (take_ofW HT_.out HW_.out (by kernel_rfl)) (fun _ _ _ h => h) (Or.inl ⟨by rfl, ?_⟩) hHeld ?_ ?_
               rotate_left
               ·
                rintro w' ⟨s0, s1, s2, s3, s4, s5, s6, s7⟩
                go_simp
                with_reducible rfl
               rotate_left
               ·
                simp only [Act.put, zS, zT, zU, i64_w, i32_w]
                rfl
               refine one_ (i := 14) (N := some 49) #[zB,zB,zB,zB,zB,zB,zB,zB,zB,zB,zB,zB,zB,zB,zB,zF,zF,zF] rfl rfl (one_of HT_.out (by kernel_rfl)) (by decide) (fun K hK => ?_)
               refine goes_ Tryd.func99 (by kernel_rfl) rfl #[.agg #[.string ((rd_T80 l0 (ji20)).f0), .int .i64 ((rd_T80 l0 (ji20)).f1), .int .i64 ((rd_T80 l0 (ji20)).f2), .string ((rd_T80 l0 (ji20)).f3)], .agg #[.string ((rd_T80 l0 x3_1).f0), .int .i64 ((rd_T80 l0 x3_1).f1), .int .i64 ((rd_T80 l0 x3_1).f2), .string ((rd_T80 l0 x3_1).f3)]] (by rfl) rfl rfl (by (try simp only [List.map_toArray, List.map_cons, List.map_nil]); first | done | (simp only [hji20]; rfl) | rfl | (simp only [List.length_drop, List.length_take]; rfl)) ?_
               with_reducible refine (spec_l10Behind.calls ((rd_T80 l0 (ji20)).f0) ((rd_T80 l0 (ji20)).f1) ((rd_T80 l0 (ji20)).f2) ((rd_T80 l0 (ji20)).f3) ((rd_T80 l0 x3_1).f0) ((rd_T80 l0 x3_1).f1) ((rd_T80 l0 x3_1).f2) ((rd_T80 l0 x3_1).f3) true _ A23.out).mono ?_
               rintro e w26 ⟨rfl, hb⟩
               refine ⟨_, rfl, ?_⟩
               have n0_ := zK (blk_below (g := gb567) (o := .cells #[.string ((rd_T80 l0 x3_1).f0), .int .i64 ((rd_T80 l0 x3_1).f1), .int .i64 ((rd_T80 l0 x3_1).f2), .string ((rd_T80 l0 x3_1).f3)] 80 (0, 0)) (by (with_reducible repeat (first | refine zM ?_ _ | refine zP ?_ | refine zQ ?_ _)); exact BK567.out) hb)
               have n1_ := zK (below_step (by repeat (first | (with_reducible first | exact HB.out | apply zA | apply zN | apply zD | refine below_set ?_ GE567.out) | exact HB.out)) hb)
               clear BK567
               clear HB
               have BK567 := n0_
               have HB := n1_
               clear n0_ n1_
               (try clear hb)
               (try clear hb2)
               (try clear hk)
               (try clear hi)
               refine hK.out _ _ ⟨(blk_cell BK567.out 0).trans rfl, (blk_cell BK567.out 1).trans rfl, (blk_cell BK567.out 2).trans rfl, (blk_cell BK567.out 3).trans rfl, ((HB.out.cell (zL w _ hw572_0)).trans hw572_0), ((HB.out.cell (zL w _ hw572_1)).trans hw572_1), ((HB.out.cell (zL w _ hw572_2)).trans hw572_2), ((HB.out.cell (zL w _ hw572_3)).trans hw572_3)⟩ (fun hHeld => ?_)
               clear hK K
               refine norm_ (a' := ?_) ?_ ?_
               rotate_left
               ·
                show Act.put _ (some 49) _ = _
                simp only [Act.put, zS, zT, zU, i64_w, i32_w]
                rfl
               refine pure_ (i := 15) (N := some 50) (v := ?_) (a' := ?_) #[zB,zB,zB,zB,zB,zB,zB,zB,zB,zB,zB,zB,zB,zB,zB,zB,zF,zF] rfl rfl (any_of HT_.out (by kernel_rfl)) (fun _ _ _ h => h) (Or.inl ⟨by rfl, ?_⟩) ?_ ?_
               rotate_left
               ·
                intro w'
                go_simp
                with_reducible rfl
               rotate_left
               ·
                simp only [Act.put, zS, zT, zU, i64_w, i32_w]
                rfl
               refine pure_ (i := 16) (N := some 51) (v := ?_) (a' := ?_) #[zB,zB,zB,zB,zB,zB,zB,zB,zB,zB,zB,zB,zB,zB,zB,zB,zB,zF] rfl rfl (any_of HT_.out (by kernel_rfl)) (fun _ _ _ h => h) (Or.inl ⟨by rfl, ?_⟩) ?_ ?_
               rotate_left
               ·
                intro w'
                go_simp
                with_reducible rfl
               rotate_left
               ·
                simp only [Act.put, zS, zT, zU, i64_w, i32_w]
                rfl
               refine pure_ (i := 17) (N := some 52) (v := ?_) (a' := ?_) #[zB,zB,zB,zB,zB,zB,zB,zB,zB,zB,zB,zB,zB,zB,zB,zB,zB,zB] rfl rfl (any_of HT_.out (by kernel_rfl)) (fun _ _ _ h => h) (Or.inl ⟨by rfl, ?_⟩) ?_ ?_
               rotate_left
               ·
                intro w'
                go_simp
                with_reducible rfl
               rotate_left
               ·
                simp only [Act.put, zS, zT, zU, i64_w, i32_w]
                rfl
               refine done_ (done_of HT_.out (by kernel_rfl)) ?_
               try go_wp2
               go_roundg kj6
               case measure => have := HK1.out; have := HJ6.out; omega
               case rel => exact ⟨(wrap64 (x3_1 + 1)), (by first | rfl | (simp; done) | (simp [*]; done)), H', ⟨by have := HK1.out; have := HJ6.out; omega⟩, ⟨by repeat (first | (with_reducible first | exact HB.out | apply zA | apply zN | apply zD | refine below_set ?_ GE567.out) | exact HB.out)⟩⟩
              ·
               replace c24 := Bool.eq_false_iff.mpr c24
               subst c24
               have H1 : (some 1) = some r := by rw [if_neg (show ¬ (false = true) by decide)] at H; exact H
               clear H
               have H := H1
               clear H1
               obtain rfl := Option.some.inj H
               try go_wp2
               have n0_ := zK (zP BK567.out)
               have n1_ := zK (zD HB.out)
               clear BK567
               clear HB
               have BK567 := n0_
               have HB := n1_
               clear n0_ n1_
               have p572 : 0 ≤ ((ji20) : Int) := zX (by first | (with_reducible assumption) | assumption)
               have q572 : (ji20) < (l0.length : Int) := zX (by first | (with_reducible assumption) | assumption)
               obtain ⟨ad572, e572, hx572_0, hx572_1, hx572_2, hx572_3⟩ := at_T80 HR0.out (ji20) p572 q572
               have hw572_3 := hx572_3
               have hw572_2 := hx572_2
               have hw572_1 := hx572_1
               have hw572_0 := hx572_0
               obtain rfl : ad566 = ad572 := (by injection e572)
               replace hx572_0 := (HB.out.cell (zL w _ hx572_0)).trans hx572_0
               replace hx572_1 := (HB.out.cell (zL w _ hx572_1)).trans hx572_1
               replace hx572_2 := (HB.out.cell (zL w _ hx572_2)).trans hx572_2
               replace hx572_3 := (HB.out.cell (zL w _ hx572_3)).trans hx572_3
               replace p572 := eq_true p572
               replace q572 := eq_true q572
               refine start_ (n := 18) (S := fun w' => w'.cell? ⟨gb567, 0, none⟩ = some (.string ((rd_T80 l0 x3_1).f0)) ∧ w'.cell? ⟨gb567, 1, none⟩ = some (.int .i64 ((rd_T80 l0 x3_1).f1)) ∧ w'.cell? ⟨gb567, 2, none⟩ = some (.int .i64 ((rd_T80 l0 x3_1).f2)) ∧ w'.cell? ⟨gb567, 3, none⟩ = some (.string ((rd_T80 l0 x3_1).f3)) ∧ w'.cell? (ad566.add (((ji20)).toNat * 4)) = some (.string ((rd_T80 l0 (ji20)).f0)) ∧ w'.cell? ⟨(ad566.add (((ji20)).toNat * 4)).block, (ad566.add (((ji20)).toNat * 4)).off + 1, none⟩ = some (.int .i64 ((rd_T80 l0 (ji20)).f1)) ∧ w'.cell? ⟨(ad566.add (((ji20)).toNat * 4)).block, (ad566.add (((ji20)).toNat * 4)).off + 2, none⟩ = some (.int .i64 ((rd_T80 l0 (ji20)).f2)) ∧ w'.cell? ⟨(ad566.add (((ji20)).toNat * 4)).block, (ad566.add (((ji20)).toNat * 4)).off + 3, none⟩ = some (.string ((rd_T80 l0 (ji20)).f3))) (ds := []) #[zF,zF,zF,zF,zF,zF,zF,zF,zF,zF,zF,zF,zF,zF,zF,zF,zF,zF] (by kernel_rfl) rfl rfl ⟨(blk_cell BK567.out 0).trans rfl, (blk_cell BK567.out 1).trans rfl, (blk_cell BK567.out 2).trans rfl, (blk_cell BK567.out 3).trans rfl, ((HB.out.cell (zL w _ hw572_0)).trans hw572_0), ((HB.out.cell (zL w _ hw572_1)).trans hw572_1), ((HB.out.cell (zL w _ hw572_2)).trans hw572_2), ((HB.out.cell (zL w _ hw572_3)).trans hw572_3)⟩ (fun hHeld => ?_); refine with_tabW spec_IndexFault.tab12 spec_IndexFault.bits12 (fun HT_ HW_ => ?_)
               generalize wc.drew = w27 at BK567 HB hx572_0 hx572_1 hx572_2 hx572_3 hHeld ⊢
               refine pure_ (i := 0) (N := some 35) (v := ?_) (a' := ?_) #[zB,zF,zF,zF,zF,zF,zF,zF,zF,zF,zF,zF,zF,zF,zF,zF,zF,zF] rfl rfl (any_of HT_.out (by kernel_rfl)) (fun _ _ _ h => h) (Or.inl ⟨by rfl, ?_⟩) ?_ ?_
               rotate_left
               ·
                intro w'
                go_simp
                with_reducible rfl
               rotate_left
               ·
                simp only [Act.put, zS, zT, zU, i64_w, i32_w]
                rfl
               refine take_ (i := 1) (N := some 36) (v := ?_) (a' := ?_) #[zB,zB,zF,zF,zF,zF,zF,zF,zF,zF,zF,zF,zF,zF,zF,zF,zF,zF] rfl rfl (take_ofW HT_.out HW_.out (by kernel_rfl)) (fun _ _ _ h => h) (Or.inl ⟨by rfl, ?_⟩) hHeld ?_ ?_
               rotate_left
               ·
                rintro w' ⟨s0, s1, s2, s3, s4, s5, s6, s7⟩
                go_simp
                with_reducible rfl
               rotate_left
               ·
                simp only [Act.put, zS, zT, zU, i64_w, i32_w]
                rfl
               refine one_ (i := 2) (N := some 37) #[zB,zB,zB,zF,zF,zF,zF,zF,zF,zF,zF,zF,zF,zF,zF,zF,zF,zF] rfl rfl (one_of HT_.out (by kernel_rfl)) (by decide) (fun K hK => ?_)
               refine goes_ Tryd.func90 (by kernel_rfl) rfl #[.string ((rd_T80 l0 x3_1).f3), .int .i64 1] (by rfl) rfl rfl (by (try simp only [List.map_toArray, List.map_cons, List.map_nil]); first | done | rfl | (simp only [List.length_drop, List.length_take]; rfl)) ?_
               with_reducible refine (spec_l6Is.calls kj6 ((rd_T80 l0 x3_1).f3) 1 true _ A17.out).mono ?_
               rintro e w' ⟨rfl, ⟨nd, rfl⟩⟩
               refine ⟨_, rfl, ?_⟩
               refine hK.out _ _ ⟨(blk_cell BK567.out 0).trans rfl, (blk_cell BK567.out 1).trans rfl, (blk_cell BK567.out 2).trans rfl, (blk_cell BK567.out 3).trans rfl, ((HB.out.cell (zL w _ hw572_0)).trans hw572_0), ((HB.out.cell (zL w _ hw572_1)).trans hw572_1), ((HB.out.cell (zL w _ hw572_2)).trans hw572_2), ((HB.out.cell (zL w _ hw572_3)).trans hw572_3)⟩ (fun hHeld => ?_)
               clear hK K
               refine norm_ (a' := ?_) ?_ ?_
               rotate_left
               ·
                show Act.put _ (some 37) _ = _
                simp only [Act.put, zS, zT, zU, i64_w, i32_w]
                rfl
               refine pure_ (i := 3) (N := some 38) (v := ?_) (a' := ?_) #[zB,zB,zB,zB,zF,zF,zF,zF,zF,zF,zF,zF,zF,zF,zF,zF,zF,zF] rfl rfl (any_of HT_.out (by kernel_rfl)) (fun _ _ _ h => h) (Or.inl ⟨by rfl, ?_⟩) ?_ ?_
               rotate_left
               ·
                intro w'
                go_simp
                with_reducible rfl
               rotate_left
               ·
                simp only [Act.put, zS, zT, zU, i64_w, i32_w]
                rfl
               refine pure_ (i := 4) (N := some 39) (v := ?_) (a' := ?_) #[zB,zB,zB,zB,zB,zF,zF,zF,zF,zF,zF,zF,zF,zF,zF,zF,zF,zF] rfl rfl (any_of HT_.out (by kernel_rfl)) (fun _ _ _ h => h) (Or.inl ⟨by rfl, ?_⟩) ?_ ?_
               rotate_left
               ·
                intro w'
                go_simp
                with_reducible rfl
               rotate_left
               ·
                simp only [Act.put, zS, zT, zU, i64_w, i32_w]
                rfl
               refine pure_ (i := 5) (N := some 40) (v := ?_) (a' := ?_) #[zB,zB,zB,zB,zB,zB,zF,zF,zF,zF,zF,zF,zF,zF,zF,zF,zF,zF] rfl rfl (any_of HT_.out (by kernel_rfl)) (fun _ _ _ h => h) (Or.inl ⟨by rfl, ?_⟩) ?_ ?_
               rotate_left
               ·
                intro w'
                go_simp
                with_reducible rfl
               rotate_left
               ·
                simp only [Act.put, zS, zT, zU, i64_w, i32_w]
                rfl
               refine pure_ (i := 6) (N := some 41) (v := ?_) (a' := ?_) #[zB,zB,zB,zB,zB,zB,zB,zF,zF,zF,zF,zF,zF,zF,zF,zF,zF,zF] rfl rfl (any_of HT_.out (by kernel_rfl)) (fun _ _ _ h => h) (Or.inl ⟨by rfl, ?_⟩) ?_ ?_
               rotate_left
               ·
                intro w'
                go_simp
                with_reducible rfl
               rotate_left
               ·
                simp only [Act.put, zS, zT, zU, i64_w, i32_w]
                rfl
               refine pure_ (i := 7) (N := some 42) (v := ?_) (a' := ?_) #[zB,zB,zB,zB,zB,zB,zB,zB,zF,zF,zF,zF,zF,zF,zF,zF,zF,zF] rfl rfl (any_of HT_.out (by kernel_rfl)) (fun _ _ _ h => h) (Or.inl ⟨by rfl, ?_⟩) ?_ ?_
               rotate_left
               ·
                intro w'
                go_simp
                with_reducible rfl
               rotate_left
               ·
                simp only [Act.put, zS, zT, zU, i64_w, i32_w]
                rfl
               refine pure_ (i := 8) (N := some 43) (v := ?_) (a' := ?_) #[zB,zB,zB,zB,zB,zB,zB,zB,zB,zF,zF,zF,zF,zF,zF,zF,zF,zF] rfl rfl (any_of HT_.out (by kernel_rfl)) (fun _ _ _ h => h) (Or.inl ⟨by rfl, ?_⟩) ?_ ?_
               rotate_left
               ·
                intro w'
                go_simp
                with_reducible rfl
               rotate_left
               ·
                simp only [Act.put, zS, zT, zU, i64_w, i32_w]
                rfl
               refine pure_ (i := 9) (N := some 44) (v := ?_) (a' := ?_) #[zB,zB,zB,zB,zB,zB,zB,zB,zB,zB,zF,zF,zF,zF,zF,zF,zF,zF] rfl rfl (any_of HT_.out (by kernel_rfl)) (fun _ _ _ h => h) (Or.inl ⟨by rfl, ?_⟩) ?_ ?_
               rotate_left
               ·
                intro w'
                go_simp
                with_reducible rfl
               rotate_left
               ·
                simp only [Act.put, zS, zT, zU, i64_w, i32_w]
                rfl
               refine pure_ (i := 10) (N := some 45) (v := ?_) (a' := ?_) #[zB,zB,zB,zB,zB,zB,zB,zB,zB,zB,zB,zF,zF,zF,zF,zF,zF,zF] rfl rfl (any_of HT_.out (by kernel_rfl)) (fun _ _ _ h => h) (Or.inl ⟨by rfl, ?_⟩) ?_ ?_
               rotate_left
               ·
                intro w'
                go_simp
                with_reducible rfl
               rotate_left
               ·
                simp only [Act.put, zS, zT, zU, i64_w, i32_w]
                rfl
               refine pure_ (i := 11) (N := some 46) (v := ?_) (a' := ?_) #[zB,zB,zB,zB,zB,zB,zB,zB,zB,zB,zB,zB,zF,zF,zF,zF,zF,zF] rfl rfl (any_of HT_.out (by kernel_rfl)) (fun _ _ _ h => h) (Or.inl ⟨by rfl, ?_⟩) ?_ ?_
               rotate_left
               ·
                intro w'
                go_simp
                with_reducible rfl
               rotate_left
               ·
                simp only [Act.put, zS, zT, zU, i64_w, i32_w]
                rfl
               refine take_ (i := 12) (N := some 47) (v := ?_) (a' := ?_) #[zB,zB,zB,zB,zB,zB,zB,zB,zB,zB,zB,zB,zB,zF,zF,zF,zF,zF] rfl rfl (take_ofW HT_.out HW_.out (by kernel_rfl)) (fun _ _ _ h => h) (Or.inl ⟨by rfl, ?_⟩) hHeld ?_ ?_
               rotate_left
               ·
                rintro w' ⟨s0, s1, s2, s3, s4, s5, s6, s7⟩
                go_simp
                with_reducible rfl
               rotate_left
               ·
                simp only [Act.put, zS, zT, zU, i64_w, i32_w]
                rfl
               refine take_ (i := 13) (N := some 48) (v := ?_) (a' := ?_) #[zB,zB,zB,zB,zB,zB,zB,zB,zB,zB,zB,zB,zB,zB,zF,zF,zF,zF] rfl rfl (take_ofW HT_.out HW_.out (by kernel_rfl)) (fun _ _ _ h => h) (Or.inl ⟨by rfl, ?_⟩) hHeld ?_ ?_
               rotate_left
               ·
                rintro w' ⟨s0, s1, s2, s3, s4, s5, s6, s7⟩
                go_simp
                with_reducible rfl
               rotate_left
               ·
                simp only [Act.put, zS, zT, zU, i64_w, i32_w]
                rfl
               refine one_ (i := 14) (N := some 49) #[zB,zB,zB,zB,zB,zB,zB,zB,zB,zB,zB,zB,zB,zB,zB,zF,zF,zF] rfl rfl (one_of HT_.out (by kernel_rfl)) (by decide) (fun K hK => ?_)
               refine goes_ Tryd.func99 (by kernel_rfl) rfl #[.agg #[.string ((rd_T80 l0 (ji20)).f0), .int .i64 ((rd_T80 l0 (ji20)).f1), .int .i64 ((rd_T80 l0 (ji20)).f2), .string ((rd_T80 l0 (ji20)).f3)], .agg #[.string ((rd_T80 l0 x3_1).f0), .int .i64 ((rd_T80 l0 x3_1).f1), .int .i64 ((rd_T80 l0 x3_1).f2), .string ((rd_T80 l0 x3_1).f3)]] (by rfl) rfl rfl (by (try simp only [List.map_toArray, List.map_cons, List.map_nil]); first | done | (simp only [hji20]; rfl) | rfl | (simp only [List.length_drop, List.length_take]; rfl)) ?_
               with_reducible refine (spec_l10Behind.calls ((rd_T80 l0 (ji20)).f0) ((rd_T80 l0 (ji20)).f1) ((rd_T80 l0 (ji20)).f2) ((rd_T80 l0 (ji20)).f3) ((rd_T80 l0 x3_1).f0) ((rd_T80 l0 x3_1).f1) ((rd_T80 l0 x3_1).f2) ((rd_T80 l0 x3_1).f3) false _ A23.out).mono ?_
               rintro e w28 ⟨rfl, hb⟩
               refine ⟨_, rfl, ?_⟩
               have n0_ := zK (blk_below (g := gb567) (o := .cells #[.string ((rd_T80 l0 x3_1).f0), .int .i64 ((rd_T80 l0 x3_1).f1), .int .i64 ((rd_T80 l0 x3_1).f2), .string ((rd_T80 l0 x3_1).f3)] 80 (0, 0)) (by (with_reducible repeat (first | refine zM ?_ _ | refine zP ?_ | refine zQ ?_ _)); exact BK567.out) hb)
               have n1_ := zK (below_step (by repeat (first | (with_reducible first | exact HB.out | apply zA | apply zN | apply zD | refine below_set ?_ GE567.out) | exact HB.out)) hb)
               clear BK567
               clear HB
               have BK567 := n0_
               have HB := n1_
               clear n0_ n1_
               (try clear hb)
               (try clear hb2)
               (try clear hk)
               (try clear hi)
               refine hK.out _ _ ⟨(blk_cell BK567.out 0).trans rfl, (blk_cell BK567.out 1).trans rfl, (blk_cell BK567.out 2).trans rfl, (blk_cell BK567.out 3).trans rfl, ((HB.out.cell (zL w _ hw572_0)).trans hw572_0), ((HB.out.cell (zL w _ hw572_1)).trans hw572_1), ((HB.out.cell (zL w _ hw572_2)).trans hw572_2), ((HB.out.cell (zL w _ hw572_3)).trans hw572_3)⟩ (fun hHeld => ?_)
               clear hK K
               refine norm_ (a' := ?_) ?_ ?_
               rotate_left
               ·
                show Act.put _ (some 49) _ = _
                simp only [Act.put, zS, zT, zU, i64_w, i32_w]
                rfl
               refine pure_ (i := 15) (N := some 50) (v := ?_) (a' := ?_) #[zB,zB,zB,zB,zB,zB,zB,zB,zB,zB,zB,zB,zB,zB,zB,zB,zF,zF] rfl rfl (any_of HT_.out (by kernel_rfl)) (fun _ _ _ h => h) (Or.inl ⟨by rfl, ?_⟩) ?_ ?_
               rotate_left
               ·
                intro w'
                go_simp
                with_reducible rfl
               rotate_left
               ·
                simp only [Act.put, zS, zT, zU, i64_w, i32_w]
                rfl
               refine pure_ (i := 16) (N := some 51) (v := ?_) (a' := ?_) #[zB,zB,zB,zB,zB,zB,zB,zB,zB,zB,zB,zB,zB,zB,zB,zB,zB,zF] rfl rfl (any_of HT_.out (by kernel_rfl)) (fun _ _ _ h => h) (Or.inl ⟨by rfl, ?_⟩) ?_ ?_
               rotate_left
               ·
                intro w'
                go_simp
                with_reducible rfl
               rotate_left
               ·
                simp only [Act.put, zS, zT, zU, i64_w, i32_w]
                rfl
               refine pure_ (i := 17) (N := some 52) (v := ?_) (a' := ?_) #[zB,zB,zB,zB,zB,zB,zB,zB,zB,zB,zB,zB,zB,zB,zB,zB,zB,zB] rfl rfl (any_of HT_.out (by kernel_rfl)) (fun _ _ _ h => h) (Or.inl ⟨by rfl, ?_⟩) ?_ ?_
               rotate_left
               ·
                intro w'
                go_simp
                with_reducible rfl
               rotate_left
               ·
                simp only [Act.put, zS, zT, zU, i64_w, i32_w]
                rfl
               refine done_ (done_of HT_.out (by kernel_rfl)) ?_
               try go_wp2
               go_ret
               exact ⟨by first | rfl | (simp [errW_none, errW_some] <;> rfl) | (simp only [← hji20]; first | rfl | (simp [errW_none, errW_some] <;> rfl)) | (simp [*, errW_none, errW_some] <;> rfl), by repeat (first | (with_reducible first | exact HB.out | apply zA | apply zN | apply zD | refine below_set ?_ GE567.out) | exact HB.out)⟩
             ·
              rw [if_neg c22] at H
              exact absurd H (by simp)
            ·
             rw [if_neg c21] at H
             exact absurd H (by simp)
           ·
            rw [if_neg c19] at H
            have c19b0 : decide (0 < x3_1) = false := decide_eq_false c19
            clear c19
            have H' := zK H
            clear H
            try go_wp2
            have n0_ := zK (zP BK567.out)
            have n1_ := zK (zD HB.out)
            clear BK567
            clear HB
            have BK567 := n0_
            have HB := n1_
            clear n0_ n1_
            refine start_ (n := 18) (S := fun w' => w'.cell? ⟨gb567, 0, none⟩ = some (.string ((rd_T80 l0 x3_1).f0)) ∧ w'.cell? ⟨gb567, 1, none⟩ = some (.int .i64 ((rd_T80 l0 x3_1).f1)) ∧ w'.cell? ⟨gb567, 2, none⟩ = some (.int .i64 ((rd_T80 l0 x3_1).f2)) ∧ w'.cell? ⟨gb567, 3, none⟩ = some (.string ((rd_T80 l0 x3_1).f3))) (ds := []) #[zF,zF,zF,zF,zF,zF,zF,zF,zF,zF,zF,zF,zF,zF,zF,zF,zF,zF] (by kernel_rfl) rfl rfl ⟨(blk_cell BK567.out 0).trans rfl, (blk_cell BK567.out 1).trans rfl, (blk_cell BK567.out 2).trans rfl, (blk_cell BK567.out 3).trans rfl⟩ (fun hHeld => ?_); refine with_tabW spec_IndexFault.tab12 spec_IndexFault.bits12 (fun HT_ HW_ => ?_)
            generalize wc.drew = w29 at BK567 HB hHeld ⊢
            refine pure_ (i := 0) (N := some 35) (v := ?_) (a' := ?_) #[zB,zF,zF,zF,zF,zF,zF,zF,zF,zF,zF,zF,zF,zF,zF,zF,zF,zF] rfl rfl (any_of HT_.out (by kernel_rfl)) (fun _ _ _ h => h) (Or.inl ⟨by rfl, ?_⟩) ?_ ?_
            rotate_left
            ·
             intro w'
             go_simp
             with_reducible rfl
            rotate_left
            ·
             simp only [Act.put, zS, zT, zU, i64_w, i32_w]
             rfl
            refine take_ (i := 1) (N := some 36) (v := ?_) (a' := ?_) #[zB,zB,zF,zF,zF,zF,zF,zF,zF,zF,zF,zF,zF,zF,zF,zF,zF,zF] rfl rfl (take_ofW HT_.out HW_.out (by kernel_rfl)) (fun _ _ _ h => h) (Or.inl ⟨by rfl, ?_⟩) hHeld ?_ ?_
            rotate_left
            ·
             rintro w' ⟨s0, s1, s2, s3⟩
             go_simp
             with_reducible rfl
            rotate_left
            ·
             simp only [Act.put, zS, zT, zU, i64_w, i32_w]
             rfl
            refine one_ (i := 2) (N := some 37) #[zB,zB,zB,zF,zF,zF,zF,zF,zF,zF,zF,zF,zF,zF,zF,zF,zF,zF] rfl rfl (one_of HT_.out (by kernel_rfl)) (by decide) (fun K hK => ?_)
            refine goes_ Tryd.func90 (by kernel_rfl) rfl #[.string ((rd_T80 l0 x3_1).f3), .int .i64 1] (by rfl) rfl rfl (by (try simp only [List.map_toArray, List.map_cons, List.map_nil]); first | done | rfl | (simp only [List.length_drop, List.length_take]; rfl)) ?_
            with_reducible refine (spec_l6Is.calls kj6 ((rd_T80 l0 x3_1).f3) 1 true _ A17.out).mono ?_
            rintro e w' ⟨rfl, ⟨nd, rfl⟩⟩
            refine ⟨_, rfl, ?_⟩
            refine hK.out _ _ ⟨(blk_cell BK567.out 0).trans rfl, (blk_cell BK567.out 1).trans rfl, (blk_cell BK567.out 2).trans rfl, (blk_cell BK567.out 3).trans rfl⟩ (fun hHeld => ?_)
            clear hK K
            refine norm_ (a' := ?_) ?_ ?_
            rotate_left
            ·
             show Act.put _ (some 37) _ = _
             simp only [Act.put, zS, zT, zU, i64_w, i32_w]
             rfl
            refine pure_ (i := 3) (N := some 38) (v := ?_) (a' := ?_) #[zB,zB,zB,zB,zF,zF,zF,zF,zF,zF,zF,zF,zF,zF,zF,zF,zF,zF] rfl rfl (any_of HT_.out (by kernel_rfl)) (fun _ _ _ h => h) (Or.inl ⟨by rfl, ?_⟩) ?_ ?_
            rotate_left
            ·
             intro w'
             go_simp
             with_reducible rfl
            rotate_left
            ·
             simp only [Act.put, zS, zT, zU, i64_w, i32_w]
             rfl
            refine pure_ (i := 4) (N := some 39) (v := ?_) (a' := ?_) #[zB,zB,zB,zB,zB,zF,zF,zF,zF,zF,zF,zF,zF,zF,zF,zF,zF,zF] rfl rfl (any_of HT_.out (by kernel_rfl)) (fun _ _ _ h => h) (Or.inl ⟨by rfl, ?_⟩) ?_ ?_
            rotate_left
            ·
             intro w'
             go_simp
             with_reducible rfl
            rotate_left
            ·
             simp only [Act.put, zS, zT, zU, i64_w, i32_w]
             rfl
            refine pure_ (i := 5) (N := some 40) (v := ?_) (a' := ?_) #[zB,zB,zB,zB,zB,zB,zF,zF,zF,zF,zF,zF,zF,zF,zF,zF,zF,zF] rfl rfl (any_of HT_.out (by kernel_rfl)) (fun _ _ _ h => h) (Or.inl ⟨by rfl, ?_⟩) ?_ ?_
            rotate_left
            ·
             intro w'
             go_simp
             with_reducible rfl
            rotate_left
            ·
             simp only [Act.put, zS, zT, zU, i64_w, i32_w]
             rfl
            refine pure_ (i := 6) (N := some 41) (v := ?_) (a' := ?_) #[zB,zB,zB,zB,zB,zB,zB,zF,zF,zF,zF,zF,zF,zF,zF,zF,zF,zF] rfl rfl (any_of HT_.out (by kernel_rfl)) (fun _ _ _ h => h) (Or.inl ⟨by rfl, ?_⟩) ?_ ?_
            rotate_left
            ·
             intro w'
             go_simp
             with_reducible rfl
            rotate_left
            ·
             simp only [Act.put, zS, zT, zU, i64_w, i32_w]
             rfl
            refine pure_ (i := 7) (N := some 42) (v := ?_) (a' := ?_) #[zB,zB,zB,zB,zB,zB,zB,zB,zF,zF,zF,zF,zF,zF,zF,zF,zF,zF] rfl rfl (any_of HT_.out (by kernel_rfl)) (fun _ _ _ h => h) (Or.inl ⟨by rfl, ?_⟩) ?_ ?_
            rotate_left
            ·
             intro w'
             go_simp
             with_reducible rfl
            rotate_left
            ·
             simp only [Act.put, zS, zT, zU, i64_w, i32_w]
             rfl
            refine pure_ (i := 8) (N := some 43) (v := undef) (a' := ?_) #[zB,zB,zB,zB,zB,zB,zB,zB,zB,zF,zF,zF,zF,zF,zF,zF,zF,zF] rfl rfl (any_of HT_.out (by kernel_rfl)) (fun _ _ _ h => h) (Or.inr ⟨by rfl, rfl⟩) ?_ ?_
            rotate_left
            ·
             simp only [Act.put, zS, zT, zU, i64_w, i32_w]
             rfl
            refine pure_ (i := 9) (N := some 44) (v := undef) (a' := ?_) #[zB,zB,zB,zB,zB,zB,zB,zB,zB,zB,zF,zF,zF,zF,zF,zF,zF,zF] rfl rfl (any_of HT_.out (by kernel_rfl)) (fun _ _ _ h => h) (Or.inr ⟨by rfl, rfl⟩) ?_ ?_
            rotate_left
            ·
             simp only [Act.put, zS, zT, zU, i64_w, i32_w]
             rfl
            refine pure_ (i := 10) (N := some 45) (v := undef) (a' := ?_) #[zB,zB,zB,zB,zB,zB,zB,zB,zB,zB,zB,zF,zF,zF,zF,zF,zF,zF] rfl rfl (any_of HT_.out (by kernel_rfl)) (fun _ _ _ h => h) (Or.inr ⟨by rfl, rfl⟩) ?_ ?_
            rotate_left
            ·
             simp only [Act.put, zS, zT, zU, i64_w, i32_w]
             rfl
            refine pure_ (i := 11) (N := some 46) (v := undef) (a' := ?_) #[zB,zB,zB,zB,zB,zB,zB,zB,zB,zB,zB,zB,zF,zF,zF,zF,zF,zF] rfl rfl (any_of HT_.out (by kernel_rfl)) (fun _ _ _ h => h) (Or.inr ⟨by rfl, rfl⟩) ?_ ?_
            rotate_left
            ·
             simp only [Act.put, zS, zT, zU, i64_w, i32_w]
             rfl
            refine pure_ (i := 12) (N := some 47) (v := undef) (a' := ?_) #[zB,zB,zB,zB,zB,zB,zB,zB,zB,zB,zB,zB,zB,zF,zF,zF,zF,zF] rfl rfl (any_of HT_.out (by kernel_rfl)) (fun _ _ _ h => h) (Or.inr ⟨by rfl, rfl⟩) ?_ ?_
            rotate_left
            ·
             simp only [Act.put, zS, zT, zU, i64_w, i32_w]
             rfl
            refine pure_ (i := 13) (N := some 48) (v := undef) (a' := ?_) #[zB,zB,zB,zB,zB,zB,zB,zB,zB,zB,zB,zB,zB,zB,zF,zF,zF,zF] rfl rfl (any_of HT_.out (by kernel_rfl)) (fun _ _ _ h => h) (Or.inr ⟨by rfl, rfl⟩) ?_ ?_
            rotate_left
            ·
             simp only [Act.put, zS, zT, zU, i64_w, i32_w]
             rfl
            refine pure_ (i := 14) (N := some 49) (v := undef) (a' := ?_) #[zB,zB,zB,zB,zB,zB,zB,zB,zB,zB,zB,zB,zB,zB,zB,zF,zF,zF] rfl rfl (any_of HT_.out (by kernel_rfl)) (fun _ _ _ h => h) (Or.inr ⟨by rfl, rfl⟩) ?_ ?_
            rotate_left
            ·
             simp only [Act.put, zS, zT, zU, i64_w, i32_w]
             rfl
            refine pure_ (i := 15) (N := some 50) (v := undef) (a' := ?_) #[zB,zB,zB,zB,zB,zB,zB,zB,zB,zB,zB,zB,zB,zB,zB,zB,zF,zF] rfl rfl (any_of HT_.out (by kernel_rfl)) (fun _ _ _ h => h) (Or.inr ⟨by rfl, rfl⟩) ?_ ?_
            rotate_left
            ·
             simp only [Act.put, zS, zT, zU, i64_w, i32_w]
             rfl
            refine pure_ (i := 16) (N := some 51) (v := ?_) (a' := ?_) #[zB,zB,zB,zB,zB,zB,zB,zB,zB,zB,zB,zB,zB,zB,zB,zB,zB,zF] rfl rfl (any_of HT_.out (by kernel_rfl)) (fun _ _ _ h => h) (Or.inl ⟨by rfl, ?_⟩) ?_ ?_
            rotate_left
            ·
             intro w'
             go_simp
             with_reducible rfl
            rotate_left
            ·
             simp only [Act.put, zS, zT, zU, i64_w, i32_w]
             rfl
            refine pure_ (i := 17) (N := some 52) (v := ?_) (a' := ?_) #[zB,zB,zB,zB,zB,zB,zB,zB,zB,zB,zB,zB,zB,zB,zB,zB,zB,zB] rfl rfl (any_of HT_.out (by kernel_rfl)) (fun _ _ _ h => h) (Or.inl ⟨by rfl, ?_⟩) ?_ ?_
            rotate_left
            ·
             intro w'
             go_simp
             with_reducible rfl
            rotate_left
            ·
             simp only [Act.put, zS, zT, zU, i64_w, i32_w]
             rfl
            refine done_ (done_of HT_.out (by kernel_rfl)) ?_
            try go_wp2
            go_roundg kj6
            case measure => have := HK1.out; have := HJ6.out; omega
            case rel => exact ⟨(wrap64 (x3_1 + 1)), (by first | rfl | (simp; done) | (simp [*]; done)), H', ⟨by have := HK1.out; have := HJ6.out; omega⟩, ⟨by repeat (first | (with_reducible first | exact HB.out | apply zA | apply zN | apply zD | refine below_set ?_ GE567.out) | exact HB.out)⟩⟩
          ·
           replace c18 := Bool.eq_false_iff.mpr c18
           subst c18
           have H1 : (some 1) = some r := by rw [if_neg (show ¬ (false = true) by decide)] at H; exact H
           clear H
           have H := H1
           clear H1
           obtain rfl := Option.some.inj H
           try go_wp2
           have n0_ := zK (zP BK567.out)
           have n1_ := zK (zD HB.out)
           clear BK567
           clear HB
           have BK567 := n0_
           have HB := n1_
           clear n0_ n1_
           refine start_ (n := 18) (S := fun w' => w'.cell? ⟨gb567, 0, none⟩ = some (.string ((rd_T80 l0 x3_1).f0)) ∧ w'.cell? ⟨gb567, 1, none⟩ = some (.int .i64 ((rd_T80 l0 x3_1).f1)) ∧ w'.cell? ⟨gb567, 2, none⟩ = some (.int .i64 ((rd_T80 l0 x3_1).f2)) ∧ w'.cell? ⟨gb567, 3, none⟩ = some (.string ((rd_T80 l0 x3_1).f3))) (ds := []) #[zF,zF,zF,zF,zF,zF,zF,zF,zF,zF,zF,zF,zF,zF,zF,zF,zF,zF] (by kernel_rfl) rfl rfl ⟨(blk_cell BK567.out 0).trans rfl, (blk_cell BK567.out 1).trans rfl, (blk_cell BK567.out 2).trans rfl, (blk_cell BK567.out 3).trans rfl⟩ (fun hHeld => ?_); refine with_tabW spec_IndexFault.tab12 spec_IndexFault.bits12 (fun HT_ HW_ => ?_)
           generalize wc.drew = w30 at BK567 HB hHeld ⊢
           refine pure_ (i := 0) (N := some 35) (v := ?_) (a' := ?_) #[zB,zF,zF,zF,zF,zF,zF,zF,zF,zF,zF,zF,zF,zF,zF,zF,zF,zF] rfl rfl (any_of HT_.out (by kernel_rfl)) (fun _ _ _ h => h) (Or.inl ⟨by rfl, ?_⟩) ?_ ?_
           rotate_left
           ·
            intro w'
            go_simp
            with_reducible rfl
           rotate_left
           ·
            simp only [Act.put, zS, zT, zU, i64_w, i32_w]
            rfl
           refine take_ (i := 1) (N := some 36) (v := ?_) (a' := ?_) #[zB,zB,zF,zF,zF,zF,zF,zF,zF,zF,zF,zF,zF,zF,zF,zF,zF,zF] rfl rfl (take_ofW HT_.out HW_.out (by kernel_rfl)) (fun _ _ _ h => h) (Or.inl ⟨by rfl, ?_⟩) hHeld ?_ ?_
           rotate_left
           ·
            rintro w' ⟨s0, s1, s2, s3⟩
            go_simp
            with_reducible rfl
           rotate_left
           ·
            simp only [Act.put, zS, zT, zU, i64_w, i32_w]
            rfl
           refine one_ (i := 2) (N := some 37) #[zB,zB,zB,zF,zF,zF,zF,zF,zF,zF,zF,zF,zF,zF,zF,zF,zF,zF] rfl rfl (one_of HT_.out (by kernel_rfl)) (by decide) (fun K hK => ?_)
           refine goes_ Tryd.func90 (by kernel_rfl) rfl #[.string ((rd_T80 l0 x3_1).f3), .int .i64 1] (by rfl) rfl rfl (by (try simp only [List.map_toArray, List.map_cons, List.map_nil]); first | done | rfl | (simp only [List.length_drop, List.length_take]; rfl)) ?_
           with_reducible refine (spec_l6Is.calls kj6 ((rd_T80 l0 x3_1).f3) 1 false _ A17.out).mono ?_
           rintro e w' ⟨rfl, ⟨nd, rfl⟩⟩
           refine ⟨_, rfl, ?_⟩
           refine hK.out _ _ ⟨(blk_cell BK567.out 0).trans rfl, (blk_cell BK567.out 1).trans rfl, (blk_cell BK567.out 2).trans rfl, (blk_cell BK567.out 3).trans rfl⟩ (fun hHeld => ?_)
           clear hK K
           refine norm_ (a' := ?_) ?_ ?_
           rotate_left
           ·
            show Act.put _ (some 37) _ = _
            simp only [Act.put, zS, zT, zU, i64_w, i32_w]
            rfl
           refine pure_ (i := 3) (N := some 38) (v := ?_) (a' := ?_) #[zB,zB,zB,zB,zF,zF,zF,zF,zF,zF,zF,zF,zF,zF,zF,zF,zF,zF] rfl rfl (any_of HT_.out (by kernel_rfl)) (fun _ _ _ h => h) (Or.inl ⟨by rfl, ?_⟩) ?_ ?_
           rotate_left
           ·
            intro w'
            go_simp
            with_reducible rfl
           rotate_left
           ·
            simp only [Act.put, zS, zT, zU, i64_w, i32_w]
            rfl
           refine pure_ (i := 4) (N := some 39) (v := ?_) (a' := ?_) #[zB,zB,zB,zB,zB,zF,zF,zF,zF,zF,zF,zF,zF,zF,zF,zF,zF,zF] rfl rfl (any_of HT_.out (by kernel_rfl)) (fun _ _ _ h => h) (Or.inl ⟨by rfl, ?_⟩) ?_ ?_
           rotate_left
           ·
            intro w'
            go_simp
            with_reducible rfl
           rotate_left
           ·
            simp only [Act.put, zS, zT, zU, i64_w, i32_w]
            rfl
           refine pure_ (i := 5) (N := some 40) (v := undef) (a' := ?_) #[zB,zB,zB,zB,zB,zB,zF,zF,zF,zF,zF,zF,zF,zF,zF,zF,zF,zF] rfl rfl (any_of HT_.out (by kernel_rfl)) (fun _ _ _ h => h) (Or.inr ⟨by rfl, rfl⟩) ?_ ?_
           rotate_left
           ·
            simp only [Act.put, zS, zT, zU, i64_w, i32_w]
            rfl
           refine pure_ (i := 6) (N := some 41) (v := undef) (a' := ?_) #[zB,zB,zB,zB,zB,zB,zB,zF,zF,zF,zF,zF,zF,zF,zF,zF,zF,zF] rfl rfl (any_of HT_.out (by kernel_rfl)) (fun _ _ _ h => h) (Or.inr ⟨by rfl, rfl⟩) ?_ ?_
           rotate_left
           ·
            simp only [Act.put, zS, zT, zU, i64_w, i32_w]
            rfl
           refine pure_ (i := 7) (N := some 42) (v := undef) (a' := ?_) #[zB,zB,zB,zB,zB,zB,zB,zB,zF,zF,zF,zF,zF,zF,zF,zF,zF,zF] rfl rfl (any_of HT_.out (by kernel_rfl)) (fun _ _ _ h => h) (Or.inr ⟨by rfl, rfl⟩) ?_ ?_
           rotate_left
           ·
            simp only [Act.put, zS, zT, zU, i64_w, i32_w]
            rfl
           refine pure_ (i := 8) (N := some 43) (v := undef) (a' := ?_) #[zB,zB,zB,zB,zB,zB,zB,zB,zB,zF,zF,zF,zF,zF,zF,zF,zF,zF] rfl rfl (any_of HT_.out (by kernel_rfl)) (fun _ _ _ h => h) (Or.inr ⟨by rfl, rfl⟩) ?_ ?_
           rotate_left
           ·
            simp only [Act.put, zS, zT, zU, i64_w, i32_w]
            rfl
           refine pure_ (i := 9) (N := some 44) (v := undef) (a' := ?_) #[zB,zB,zB,zB,zB,zB,zB,zB,zB,zB,zF,zF,zF,zF,zF,zF,zF,zF] rfl rfl (any_of HT_.out (by kernel_rfl)) (fun _ _ _ h => h) (Or.inr ⟨by rfl, rfl⟩) ?_ ?_
           rotate_left
           ·
            simp only [Act.put, zS, zT, zU, i64_w, i32_w]
            rfl
           refine pure_ (i := 10) (N := some 45) (v := undef) (a' := ?_) #[zB,zB,zB,zB,zB,zB,zB,zB,zB,zB,zB,zF,zF,zF,zF,zF,zF,zF] rfl rfl (any_of HT_.out (by kernel_rfl)) (fun _ _ _ h => h) (Or.inr ⟨by rfl, rfl⟩) ?_ ?_
           rotate_left
           ·
            simp only [Act.put, zS, zT, zU, i64_w, i32_w]
            rfl
           refine pure_ (i := 11) (N := some 46) (v := undef) (a' := ?_) #[zB,zB,zB,zB,zB,zB,zB,zB,zB,zB,zB,zB,zF,zF,zF,zF,zF,zF] rfl rfl (any_of HT_.out (by kernel_rfl)) (fun _ _ _ h => h) (Or.inr ⟨by rfl, rfl⟩) ?_ ?_
           rotate_left
           ·
            simp only [Act.put, zS, zT, zU, i64_w, i32_w]
            rfl
           refine pure_ (i := 12) (N := some 47) (v := undef) (a' := ?_) #[zB,zB,zB,zB,zB,zB,zB,zB,zB,zB,zB,zB,zB,zF,zF,zF,zF,zF] rfl rfl (any_of HT_.out (by kernel_rfl)) (fun _ _ _ h => h) (Or.inr ⟨by rfl, rfl⟩) ?_ ?_
           rotate_left
           ·
            simp only [Act.put, zS, zT, zU, i64_w, i32_w]
            rfl
           refine pure_ (i := 13) (N := some 48) (v := undef) (a' := ?_) #[zB,zB,zB,zB,zB,zB,zB,zB,zB,zB,zB,zB,zB,zB,zF,zF,zF,zF] rfl rfl (any_of HT_.out (by kernel_rfl)) (fun _ _ _ h => h) (Or.inr ⟨by rfl, rfl⟩) ?_ ?_
           rotate_left
           ·
            simp only [Act.put, zS, zT, zU, i64_w, i32_w]
            rfl
           refine pure_ (i := 14) (N := some 49) (v := undef) (a' := ?_) #[zB,zB,zB,zB,zB,zB,zB,zB,zB,zB,zB,zB,zB,zB,zB,zF,zF,zF] rfl rfl (any_of HT_.out (by kernel_rfl)) (fun _ _ _ h => h) (Or.inr ⟨by rfl, rfl⟩) ?_ ?_
           rotate_left
           ·
            simp only [Act.put, zS, zT, zU, i64_w, i32_w]
            rfl
           refine pure_ (i := 15) (N := some 50) (v := undef) (a' := ?_) #[zB,zB,zB,zB,zB,zB,zB,zB,zB,zB,zB,zB,zB,zB,zB,zB,zF,zF] rfl rfl (any_of HT_.out (by kernel_rfl)) (fun _ _ _ h => h) (Or.inr ⟨by rfl, rfl⟩) ?_ ?_
           rotate_left
           ·
            simp only [Act.put, zS, zT, zU, i64_w, i32_w]
            rfl
           refine pure_ (i := 16) (N := some 51) (v := undef) (a' := ?_) #[zB,zB,zB,zB,zB,zB,zB,zB,zB,zB,zB,zB,zB,zB,zB,zB,zB,zF] rfl rfl (any_of HT_.out (by kernel_rfl)) (fun _ _ _ h => h) (Or.inr ⟨by rfl, rfl⟩) ?_ ?_
           rotate_left
           ·
            simp only [Act.put, zS, zT, zU, i64_w, i32_w]
            rfl
           refine pure_ (i := 17) (N := some 52) (v := ?_) (a' := ?_) #[zB,zB,zB,zB,zB,zB,zB,zB,zB,zB,zB,zB,zB,zB,zB,zB,zB,zB] rfl rfl (any_of HT_.out (by kernel_rfl)) (fun _ _ _ h => h) (Or.inl ⟨by rfl, ?_⟩) ?_ ?_
           rotate_left
           ·
            intro w'
            go_simp
            with_reducible rfl
           rotate_left
           ·
            simp only [Act.put, zS, zT, zU, i64_w, i32_w]
            rfl
           refine done_ (done_of HT_.out (by kernel_rfl)) ?_
           try go_wp2
           go_ret
           exact ⟨by first | rfl | (simp [errW_none, errW_some] <;> rfl) | (simp [*, errW_none, errW_some] <;> rfl), by repeat (first | (with_reducible first | exact HB.out | apply zA | apply zN | apply zD | refine below_set ?_ GE567.out) | exact HB.out)⟩
      ·
       rw [if_neg c6] at H
       have c6b0 : (t568 == 0) = false := beq_eq_false_iff_ne.mpr c6
       have c6b1 : (t568 != 0) = true := bne_iff_ne.mpr c6
       obtain rfl := Option.some.inj H
       have p566 : 0 ≤ (x3_1 : Int) := zX (by first | (with_reducible assumption) | assumption)
       have q566 : x3_1 < (l0.length : Int) := zX (by first | (with_reducible assumption) | assumption)
       obtain ⟨ad566, e566, hx566_0, hx566_1, hx566_2, hx566_3⟩ := at_T80 HR0.out x3_1 p566 q566
       cases e566
       replace hx566_0 := (HB.out.cell (zL w _ hx566_0)).trans hx566_0
       replace hx566_1 := (HB.out.cell (zL w _ hx566_1)).trans hx566_1
       replace hx566_2 := (HB.out.cell (zL w _ hx566_2)).trans hx566_2
       replace hx566_3 := (HB.out.cell (zL w _ hx566_3)).trans hx566_3
       replace p566 := eq_true p566
       replace q566 := eq_true q566
       go_wp2_with (first | ((with_reducible refine gate_dst (N := 4) rfl ?_); refine box_event ?hg (N := 4) ?hd (cs := #[.string (⟨#[]⟩ : ByteArray), .int .i64 0, .int .i64 0, .string (⟨#[]⟩ : ByteArray)]) (t := 80) ?hr ?_; (case hd => rfl); (case hg => rfl); (case hr => first | (go_simp; done) | (go_simp; rfl)); intro gb567 hg w31 hbox hb; have n0_ := zK (below_step (by repeat (first | (with_reducible first | exact HB.out | apply zA | apply zN | apply zD) | exact HB.out)) hb); have n1_ := zK (hbox); have n2_ := zK ((by rw [hg]; exact (below_size (by repeat (first | (with_reducible first | exact HB.out | apply zA | apply zN | apply zD) | exact HB.out))) : w.heap.size ≤ gb567)); have n3_ := zK ((by rw [hg]; exact (below_size (by repeat (first | (with_reducible first | exact HB.out | apply zA | apply zN | apply zD) | exact HB.out))) : w.heap.size ≤ gb567)); clear HB; have HB := n0_; have BK567 := n1_; have GW567 := n2_; have GE567 := n3_; clear n0_ n1_ n2_ n3_; clear hb hbox hg; have hcz32_0 : w31.cell? ⟨gb567, 0, none⟩ = some (.string (⟨#[]⟩ : ByteArray)) := (blk_cell BK567.out 0).trans rfl; have hcz32_1 : w31.cell? ⟨gb567, 1, none⟩ = some (.int .i64 0) := (blk_cell BK567.out 1).trans rfl; have hcz32_2 : w31.cell? ⟨gb567, 2, none⟩ = some (.int .i64 0) := (blk_cell BK567.out 2).trans rfl; have hcz32_3 : w31.cell? ⟨gb567, 3, none⟩ = some (.string (⟨#[]⟩ : ByteArray)) := (blk_cell BK567.out 3).trans rfl; have hfz32_0 := blk_frozen BK567.out 0; have hfz32_1 := blk_frozen BK567.out 1; have hfz32_2 := blk_frozen BK567.out 2; have hfz32_3 := blk_frozen BK567.out 3) | ((with_reducible refine gate_callee (f := 97) rfl ?_); refine goesL_ (some 21) rfl rfl Tryd.func97 (by kernel_rfl) rfl #[.string ((rd_T80 l0 x3_1).f0)] rfl (by (try simp only [List.map_toArray, List.map_cons, List.map_nil]); first | done | rfl | (simp only [List.length_drop, List.length_take]; rfl)) ?_; (with_reducible refine (spec_PathFault.calls k1 ((rd_T80 l0 x3_1).f0) t568 _ A5.out).mono ?_); rintro e w33 ⟨rfl, hb⟩; refine ⟨_, rfl, ?_⟩; have n0_ := zK (blk_below (g := gb567) (o := .cells #[.string ((rd_T80 l0 x3_1).f0), .int .i64 ((rd_T80 l0 x3_1).f1), .int .i64 ((rd_T80 l0 x3_1).f2), .string ((rd_T80 l0 x3_1).f3)] 80 (0, 0)) (by (with_reducible repeat (first | refine zM ?_ _ | refine zP ?_ | refine zQ ?_ _)); refine blk_put (cs := #[.string ((rd_T80 l0 x3_1).f0), .int .i64 ((rd_T80 l0 x3_1).f1), .int .i64 ((rd_T80 l0 x3_1).f2), .string (⟨#[]⟩ : ByteArray)]) ?_ 3 _ rfl; (with_reducible repeat (first | refine zM ?_ _ | refine zP ?_ | refine zQ ?_ _)); refine blk_put (cs := #[.string ((rd_T80 l0 x3_1).f0), .int .i64 ((rd_T80 l0 x3_1).f1), .int .i64 0, .string (⟨#[]⟩ : ByteArray)]) ?_ 2 _ rfl; (with_reducible repeat (first | refine zM ?_ _ | refine zP ?_ | refine zQ ?_ _)); refine blk_put (cs := #[.string ((rd_T80 l0 x3_1).f0), .int .i64 0, .int .i64 0, .string (⟨#[]⟩ : ByteArray)]) ?_ 1 _ rfl; (with_reducible repeat (first | refine zM ?_ _ | refine zP ?_ | refine zQ ?_ _)); refine blk_put (cs := #[.string (⟨#[]⟩ : ByteArray), .int .i64 0, .int .i64 0, .string (⟨#[]⟩ : ByteArray)]) ?_ 0 _ rfl; (with_reducible repeat (first | refine zM ?_ _ | refine zP ?_ | refine zQ ?_ _)); exact BK567.out) hb); have n1_ := zK (below_step (by repeat (first | (with_reducible first | exact HB.out | apply zA | apply zN | apply zD | refine below_set ?_ GE567.out) | exact HB.out)) hb); clear BK567; clear HB; have BK567 := n0_; have HB := n1_; clear n0_ n1_; (try clear hb); (try clear hb2); (try clear hk); (try clear hi)))
       go_ret
       exact ⟨by first | rfl | (simp [errW_none, errW_some] <;> rfl) | (simp [*, errW_none, errW_some] <;> rfl), by repeat (first | (with_reducible first | exact HB.out | apply zA | apply zN | apply zD | refine below_set ?_ GE567.out) | exact HB.out)⟩
     ·
      rw [if_neg c4] at H
      exact absurd H (by simp)
    ·
     rw [if_neg c3] at H
     have c3b0 : decide (x3_1 < (l0.length : Int)) = false := decide_eq_false c3
     clear c3
     obtain rfl := Option.some.inj H
     go_wp2
     go_ret
     exact ⟨by first | rfl | (simp [errW_none, errW_some] <;> rfl) | (simp [*, errW_none, errW_some] <;> rfl), by repeat (first | (with_reducible first | exact HB.out | apply zA | apply zN | apply zD) | exact HB.out)⟩


/-! ### spec_l9Has: function 88 -/
def spec_l9Has.l0 : Nat → List ByteArray → ByteArray → Int → Option (Bool)
 | 0, _, _, _ => none
 | k + 1, x0, x1, x5 => if x5 < (x0.length : Int) then (if 0 ≤ x5 then (if (rdOf ByteArray.empty x0 x5).toList = x1.toList then (some true) else (spec_l9Has.l0 k x0 x1 (wrap64 (x5 + 1)))) else (none)) else (some false)
def spec_l9Has.f (k : Nat) (l0 : List ByteArray) (a1 : ByteArray) : Option (Bool) := spec_l9Has.l0 k l0 a1 0
theorem spec_l9Has.mono_l : ∀ k, (∀ y0 y1 y2, LeO (spec_l9Has.l0 k y0 y1 y2) (spec_l9Has.l0 (k + 1) y0 y1 y2))
 | 0 => fun _ _ _ r h => by simp [spec_l9Has.l0] at h
 | k + 1 => by
  have ih0 := spec_l9Has.mono_l k
  ·
   intro y0 y1 y2
   unfold spec_l9Has.l0
   repeat' first
   | (with_reducible exact ih0 _ _ _)
   | (with_reducible exact LeO.refl _)
   | (with_reducible exact LeO.none _)
   | (with_reducible refine LeO.ite ?_ ?_)
   | (with_reducible refine LeO.bind ?_ (fun _ => ?_))
   | exact ih0 _ _ _
   | exact LeO.none _
   | refine LeO.ite ?_ ?_
   | refine LeO.bind ?_ (fun _ => ?_)
theorem spec_l9Has.mono : ∀ a0 a1 k, LeO (spec_l9Has.f k a0 a1) (spec_l9Has.f (k + 1) a0 a1) := by
 intro a0 a1 k
 have ih0 := spec_l9Has.mono_l k
 unfold spec_l9Has.f
 repeat' first
   | (with_reducible exact ih0 _ _ _)
   | (with_reducible exact LeO.refl _)
   | (with_reducible exact LeO.none _)
   | (with_reducible refine LeO.ite ?_ ?_)
   | (with_reducible refine LeO.bind ?_ (fun _ => ?_))
   | exact ih0 _ _ _
   | exact LeO.none _
   | refine LeO.ite ?_ ?_
   | refine LeO.bind ?_ (fun _ => ?_)
set_option maxHeartbeats 8000000 in
set_option maxRecDepth 100000 in
theorem spec_l9Has.calls (k : Nat) (A0 : Option Addr) (c0 : Nat) (l0 : List ByteArray) (a1 : ByteArray) (r : Bool) (w : World) (hr0 : Kd.C Kd.string w A0 l0.length l0) (hc0 : l0.length ≤ c0) (h : spec_l9Has.f k l0 a1 = some r) :
  Calls Tryd.prog 88 #[.slice A0 l0.length c0, .string a1] w fun e w' => e = .returned (.bool r) ∧ Drawn0 w w' := by
 have HR0 := zK hr0
 have HC0 := zK hc0
 clear hr0 hc0
 have H : (spec_l9Has.l0 k l0 a1 0) = some r := h
 clear h
 have H' := zK H
 clear H
 go_enter Tryd.func88, Tryd.ntmps88
 go_wp2
 go_loopg [5] k (fun kq v5 w' => ∃ (x5_1 : Int), v5 = .int .i64 x5_1 ∧ Aside0 (spec_l9Has.l0 kq l0 a1 x5_1 = some r) ∧ Aside0 (kq ≤ k) ∧ Drawn0 w w')
 case atStart => exact ⟨(0), (by first | rfl | (simp; done) | (simp [*]; done)), H', ⟨Nat.le_refl _⟩, by repeat (first | exact Drawn0.refl _ | apply Drawn0.step)⟩
 case round =>
  clear H'
  try clear p2
  obtain ⟨x5_1, rfl, HA, HK1, ⟨m1, rfl⟩⟩ := hrel
  cases gk with
  | zero => exact absurd HA.out (by simp [spec_l9Has.l0])
  | succ k1 =>
   have H := HA.out
   clear HA
   simp only [spec_l9Has.l0] at H
   by_cases c3 : x5_1 < (l0.length : Int)
   ·
    rw [if_pos c3] at H
    have c3b0 : decide (x5_1 < (l0.length : Int)) = true := decide_eq_true c3
    clear c3
    by_cases c4 : 0 ≤ x5_1
    ·
     rw [if_pos c4] at H
     have c4b0 : decide (0 ≤ x5_1) = true := decide_eq_true c4
     clear c4
     by_cases c5 : (rdOf ByteArray.empty l0 x5_1).toList = a1.toList
     ·
      rw [if_pos c5] at H
      have c5b0 : ((rdOf ByteArray.empty l0 x5_1).toList == a1.toList) = true := beq_iff_eq.mpr c5
      have c5b1 : ((rdOf ByteArray.empty l0 x5_1).toList != a1.toList) = false := bne_eq_false_iff_eq.mpr c5
      clear c5
      obtain rfl := Option.some.inj H
      have p622 : 0 ≤ (x5_1 : Int) := zX (by first | (with_reducible assumption) | assumption)
      have q622 : x5_1 < (l0.length : Int) := zX (by first | (with_reducible assumption) | assumption)
      obtain ⟨ad622, e622, hx622_0⟩ := Kd.at_string HR0.out x5_1 p622 q622
      cases e622
      replace p622 := eq_true p622
      replace q622 := eq_true q622
      go_wp2
      go_ret
      exact ⟨by first | rfl | (simp; done) | (simp [*]; done), by repeat (first | exact Drawn0.refl _ | apply Drawn0.step)⟩
     ·
      rw [if_neg c5] at H
      have c5b0 : ((rdOf ByteArray.empty l0 x5_1).toList == a1.toList) = false := beq_eq_false_iff_ne.mpr c5
      have c5b1 : ((rdOf ByteArray.empty l0 x5_1).toList != a1.toList) = true := bne_iff_ne.mpr c5
      have H' := zK H
      clear H
      have p622 : 0 ≤ (x5_1 : Int) := zX (by first | (with_reducible assumption) | assumption)
      have q622 : x5_1 < (l0.length : Int) := zX (by first | (with_reducible assumption) | assumption)
      obtain ⟨ad622, e622, hx622_0⟩ := Kd.at_string HR0.out x5_1 p622 q622
      cases e622
      replace p622 := eq_true p622
      replace q622 := eq_true q622
      go_wp2
      go_roundg k1
      case measure => have := HK1.out; omega
      case rel => exact ⟨(wrap64 (x5_1 + 1)), (by first | rfl | (simp; done) | (simp [*]; done)), H', ⟨by have := HK1.out; omega⟩, by repeat (first | exact Drawn0.refl _ | apply Drawn0.step)⟩
    ·
     rw [if_neg c4] at H
     exact absurd H (by simp)
   ·
    rw [if_neg c3] at H
    have c3b0 : decide (x5_1 < (l0.length : Int)) = false := decide_eq_false c3
    clear c3
    obtain rfl := Option.some.inj H
    go_wp2
    go_ret
    exact ⟨by first | rfl | (simp; done) | (simp [*]; done), by repeat (first | exact Drawn0.refl _ | apply Drawn0.step)⟩


/-! ### impl_within: function 103 -/
def impl_within.f (a0 : Int) (a1 : Int) (a2 : Int) : Option (Bool) := if a0 ≥ a1 then (some (decide (a0 ≤ a2))) else (some false)
set_option maxHeartbeats 8000000 in
set_option maxRecDepth 100000 in
theorem impl_within.calls (a0 : Int) (a1 : Int) (a2 : Int) (r : Bool) (w : World) (h : impl_within.f a0 a1 a2 = some r) :
  Calls Tryd.prog 103 #[.int .i64 a0, .int .i64 a1, .int .i64 a2] w fun e w' => e = .returned (.bool r) ∧ Drawn0 w w' := by
 have H : (if a0 ≥ a1 then (some (decide (a0 ≤ a2))) else (some false)) = some r := h
 clear h
 by_cases c4 : a0 ≥ a1
 ·
  rw [if_pos c4] at H
  have c4b0 : decide (a1 ≤ a0) = true := decide_eq_true c4
  clear c4
  obtain rfl := Option.some.inj H
  go_enter Tryd.func103, Tryd.ntmps103
  go_wp2
  go_ret
  exact ⟨by first | rfl | (simp; done) | (simp [*]; done), by repeat (first | exact Drawn0.refl _ | apply Drawn0.step)⟩
 ·
  rw [if_neg c4] at H
  have c4b0 : decide (a1 ≤ a0) = false := decide_eq_false c4
  clear c4
  obtain rfl := Option.some.inj H
  go_enter Tryd.func103, Tryd.ntmps103
  go_wp2
  go_ret
  exact ⟨by first | rfl | (simp; done) | (simp [*]; done), by repeat (first | exact Drawn0.refl _ | apply Drawn0.step)⟩


/-! ### impl_NameFault: function 150 -/
mutual
def impl_NameFault.j0 : Nat → ByteArray → Bool → Option (Int)
 | 0, _, _ => none
 | k + 1, x0, x20 => if x20 = true then (some 1) else (impl_NameFault.l0 k x0 (x0.size : Int) 0)
def impl_NameFault.l0 : Nat → ByteArray → Int → Int → Option (Int)
 | 0, _, _, _ => none
 | k + 1, x0, x22, x23 => if x23 < x22 then (if 0 ≤ x23 then (if x23 < (x0.size : Int) then (if (bt x0 x23) ≥ 97 then (if (bt x0 x23) ≤ 122 then (impl_NameFault.l0 k x0 x22 (wrap64 (x23 + 1))) else (if (bt x0 x23) ≥ 48 then (if (bt x0 x23) ≤ 57 then (impl_NameFault.l0 k x0 x22 (wrap64 (x23 + 1))) else (if (bt x0 x23) = 46 then (impl_NameFault.l0 k x0 x22 (wrap64 (x23 + 1))) else (if (bt x0 x23) = 95 then (impl_NameFault.l0 k x0 x22 (wrap64 (x23 + 1))) else (if ((bt x0 x23) = 45) then (impl_NameFault.l0 k x0 x22 (wrap64 (x23 + 1))) else (some 1))))) else (if (bt x0 x23) = 46 then (impl_NameFault.l0 k x0 x22 (wrap64 (x23 + 1))) else (if (bt x0 x23) = 95 then (impl_NameFault.l0 k x0 x22 (wrap64 (x23 + 1))) else (if ((bt x0 x23) = 45) then (impl_NameFault.l0 k x0 x22 (wrap64 (x23 + 1))) else (some 1)))))) else (if (bt x0 x23) ≥ 48 then (if (bt x0 x23) ≤ 57 then (impl_NameFault.l0 k x0 x22 (wrap64 (x23 + 1))) else (if (bt x0 x23) = 46 then (impl_NameFault.l0 k x0 x22 (wrap64 (x23 + 1))) else (if (bt x0 x23) = 95 then (impl_NameFault.l0 k x0 x22 (wrap64 (x23 + 1))) else (if ((bt x0 x23) = 45) then (impl_NameFault.l0 k x0 x22 (wrap64 (x23 + 1))) else (some 1))))) else (if (bt x0 x23) = 46 then (impl_NameFault.l0 k x0 x22 (wrap64 (x23 + 1))) else (if (bt x0 x23) = 95 then (impl_NameFault.l0 k x0 x22 (wrap64 (x23 + 1))) else (if ((bt x0 x23) = 45) then (impl_NameFault.l0 k x0 x22 (wrap64 (x23 + 1))) else (some 1)))))) else (none)) else (none)) else (some 0)
end
def impl_NameFault.f (k : Nat) (a0 : ByteArray) : Option (Int) := if (a0.size : Int) < 1 then (impl_NameFault.j0 k a0 true) else (if (a0.size : Int) > 12 then (impl_NameFault.j0 k a0 true) else (if a0.toList = ([46] : List UInt8) then (impl_NameFault.j0 k a0 true) else (impl_NameFault.j0 k a0 (a0.toList == ([46, 46] : List UInt8)))))
theorem impl_NameFault.mono_l : ∀ k, (∀ y0 y1, LeO (impl_NameFault.j0 k y0 y1) (impl_NameFault.j0 (k + 1) y0 y1)) ∧ (∀ y0 y1 y2, LeO (impl_NameFault.l0 k y0 y1 y2) (impl_NameFault.l0 (k + 1) y0 y1 y2))
 | 0 => ⟨fun _ _ r h => by simp [impl_NameFault.j0] at h, fun _ _ _ r h => by simp [impl_NameFault.l0] at h⟩
 | k + 1 => by
  obtain ⟨ih0, ih1⟩ := impl_NameFault.mono_l k
  refine ⟨?_, ?_⟩
  ·
   intro y0 y1
   unfold impl_NameFault.j0
   repeat' first
   | (with_reducible exact ih0 _ _)
   | (with_reducible exact ih1 _ _ _)
   | (with_reducible exact LeO.refl _)
   | (with_reducible exact LeO.none _)
   | (with_reducible refine LeO.ite ?_ ?_)
   | (with_reducible refine LeO.bind ?_ (fun _ => ?_))
   | exact ih0 _ _
   | exact ih1 _ _ _
   | exact LeO.none _
   | refine LeO.ite ?_ ?_
   | refine LeO.bind ?_ (fun _ => ?_)
  ·
   intro y0 y1 y2
   unfold impl_NameFault.l0
   repeat' first
   | (with_reducible exact ih0 _ _)
   | (with_reducible exact ih1 _ _ _)
   | (with_reducible exact LeO.refl _)
   | (with_reducible exact LeO.none _)
   | (with_reducible refine LeO.ite ?_ ?_)
   | (with_reducible refine LeO.bind ?_ (fun _ => ?_))
   | exact ih0 _ _
   | exact ih1 _ _ _
   | exact LeO.none _
   | refine LeO.ite ?_ ?_
   | refine LeO.bind ?_ (fun _ => ?_)
theorem impl_NameFault.mono : ∀ a0 k, LeO (impl_NameFault.f k a0) (impl_NameFault.f (k + 1) a0) := by
 intro a0 k
 obtain ⟨ih0, ih1⟩ := impl_NameFault.mono_l k
 unfold impl_NameFault.f
 repeat' first
   | (with_reducible exact ih0 _ _)
   | (with_reducible exact ih1 _ _ _)
   | (with_reducible exact LeO.refl _)
   | (with_reducible exact LeO.none _)
   | (with_reducible refine LeO.ite ?_ ?_)
   | (with_reducible refine LeO.bind ?_ (fun _ => ?_))
   | exact ih0 _ _
   | exact ih1 _ _ _
   | exact LeO.none _
   | refine LeO.ite ?_ ?_
   | refine LeO.bind ?_ (fun _ => ?_)
set_option maxHeartbeats 8000000 in
set_option maxRecDepth 100000 in
theorem impl_NameFault.calls (k : Nat) (a0 : ByteArray) (r : Int) (w : World) (h : impl_NameFault.f k a0 = some r) :
  Calls Tryd.prog 150 #[.string a0] w fun e w' => e = .returned (.int .i64 r) ∧ Drawn0 w w' := by
 have H : (if (a0.size : Int) < 1 then (impl_NameFault.j0 k a0 true) else (if (a0.size : Int) > 12 then (impl_NameFault.j0 k a0 true) else (if a0.toList = ([46] : List UInt8) then (impl_NameFault.j0 k a0 true) else (impl_NameFault.j0 k a0 (a0.toList == ([46, 46] : List UInt8)))))) = some r := h
 clear h
 have HC2 := zK H
 clear H
 go_enter Tryd.func150, Tryd.ntmps150
 go_upto_region 1 with (fail)
 go_cut [20] (fun v20 wc => ∃ (kq : Nat) (x20_1 : Bool), v20 = .bool x20_1 ∧ Aside0 (impl_NameFault.j0 kq a0 x20_1 = some r) ∧ Aside0 (kq ≤ k) ∧ Drawn0 w wc)
 case first =>
  have H := HC2.out
  clear HC2
  by_cases c3 : (a0.size : Int) < 1
  ·
   rw [if_pos c3] at H
   have c3b0 : decide ((a0.size : Int) < 1) = true := decide_eq_true c3
   have c3b1 : decide (a0.size < 1) = true := decide_eq_true (by omega)
   clear c3
   (first | rw [c3b0] | (simp only [i64_w, i32_w]; rw [c3b0]) | skip)
   have H' := zK H
   clear H
   go_wp2
   go_meet
   case rel => exact ⟨_, (true), (by first | rfl | (simp; done) | (simp [*]; done)), H', ⟨by first | omega | exact Nat.le_refl _⟩, by repeat (first | exact Drawn0.refl _ | apply Drawn0.step)⟩
  ·
   rw [if_neg c3] at H
   have c3b0 : decide ((a0.size : Int) < 1) = false := decide_eq_false c3
   have c3b1 : decide (a0.size < 1) = false := decide_eq_false (by omega)
   clear c3
   (first | rw [c3b0] | (simp only [i64_w, i32_w]; rw [c3b0]) | skip)
   by_cases c4 : (a0.size : Int) > 12
   ·
    rw [if_pos c4] at H
    have c4b0 : decide (12 < (a0.size : Int)) = true := decide_eq_true c4
    have c4b1 : decide (12 < a0.size) = true := decide_eq_true (by omega)
    clear c4
    have H' := zK H
    clear H
    go_wp2
    go_meet
    case rel => exact ⟨_, (true), (by first | rfl | (simp; done) | (simp [*]; done)), H', ⟨by first | omega | exact Nat.le_refl _⟩, by repeat (first | exact Drawn0.refl _ | apply Drawn0.step)⟩
   ·
    rw [if_neg c4] at H
    have c4b0 : decide (12 < (a0.size : Int)) = false := decide_eq_false c4
    have c4b1 : decide (12 < a0.size) = false := decide_eq_false (by omega)
    clear c4
    by_cases c5 : a0.toList = ([46] : List UInt8)
    ·
     rw [if_pos c5] at H
     have c5b0 : (a0.toList == ([46] : List UInt8)) = true := beq_iff_eq.mpr c5
     have c5b1 : (a0.toList != ([46] : List UInt8)) = false := bne_eq_false_iff_eq.mpr c5
     clear c5
     have H' := zK H
     clear H
     go_wp2
     go_meet
     case rel => exact ⟨_, (true), (by first | rfl | (simp; done) | (simp [*]; done)), H', ⟨by first | omega | exact Nat.le_refl _⟩, by repeat (first | exact Drawn0.refl _ | apply Drawn0.step)⟩
    ·
     rw [if_neg c5] at H
     have c5b0 : (a0.toList == ([46] : List UInt8)) = false := beq_eq_false_iff_ne.mpr c5
     have c5b1 : (a0.toList != ([46] : List UInt8)) = true := bne_iff_ne.mpr c5
     have H' := zK H
     clear H
     go_wp2
     go_meet
     case rel => exact ⟨_, ((a0.toList == ([46, 46] : List UInt8))), (by first | rfl | (simp; done) | (simp [*]; done)), H', ⟨by first | omega | exact Nat.le_refl _⟩, by repeat (first | exact Drawn0.refl _ | apply Drawn0.step)⟩
 case rest =>
  clear HC2
  try clear c1
  try clear p2
  try clear c3
  try clear c3b0
  try clear c3b1
  try clear c4
  try clear c4b0
  try clear c4b1
  try clear c5
  try clear c5b0
  try clear c5b1
  obtain ⟨kq, x20_1, rfl, HA, HJ1, ⟨mc1, rfl⟩⟩ := hcut
  cases kq with
  | zero => exact absurd HA.out (by simp [impl_NameFault.j0])
  | succ kj1 =>
   have H := HA.out
   clear HA
   simp only [impl_NameFault.j0] at H
   by_cases c6 : x20_1 = true
   ·
    subst c6
    have H1 : (some 1) = some r := by rw [if_pos rfl] at H; exact H
    clear H
    have H := H1
    clear H1
    obtain rfl := Option.some.inj H
    go_wp2
    go_ret
    exact ⟨by first | rfl | (simp; done) | (simp [*]; done), by repeat (first | exact Drawn0.refl _ | apply Drawn0.step)⟩
   ·
    replace c6 := Bool.eq_false_iff.mpr c6
    subst c6
    have H1 : (impl_NameFault.l0 kj1 a0 (a0.size : Int) 0) = some r := by rw [if_neg (show ¬ (false = true) by decide)] at H; exact H
    clear H
    have H := H1
    clear H1
    have H' := zK H
    clear H
    go_wp2
    go_loopg [23] kj1 (fun kq v23 w' => ∃ (x23_2 : Int), v23 = .int .i64 x23_2 ∧ Aside0 (impl_NameFault.l0 kq a0 (a0.size : Int) x23_2 = some r) ∧ Aside0 (kq ≤ kj1) ∧ Drawn0 w w')
    case atStart => exact ⟨(0), (by first | rfl | (simp; done) | (simp [*]; done)), H', ⟨Nat.le_refl _⟩, by repeat (first | exact Drawn0.refl _ | apply Drawn0.step)⟩
    case round =>
     clear H'
     try clear c1
     try clear p2
     try clear c3
     try clear c3b0
     try clear c3b1
     try clear c4
     try clear c4b0
     try clear c4b1
     try clear c5
     try clear c5b0
     try clear c5b1
     try clear c6
     try clear p2
     obtain ⟨x23_2, rfl, HA, HK2, ⟨m2, rfl⟩⟩ := hrel
     cases gk with
     | zero => exact absurd HA.out (by simp [impl_NameFault.l0])
     | succ k2 =>
      have H := HA.out
      clear HA
      simp only [impl_NameFault.l0] at H
      by_cases c7 : x23_2 < (a0.size : Int)
      ·
       rw [if_pos c7] at H
       have c7b0 : decide (x23_2 < (a0.size : Int)) = true := decide_eq_true c7
       clear c7
       by_cases c8 : 0 ≤ x23_2
       ·
        rw [if_pos c8] at H
        have c8b0 : decide (0 ≤ x23_2) = true := decide_eq_true c8
        clear c8
        by_cases c9 : x23_2 < (a0.size : Int)
        ·
         rw [if_pos c9] at H
         have c9b0 : decide (x23_2 < (a0.size : Int)) = true := decide_eq_true c9
         clear c9
         by_cases c11 : (bt a0 x23_2) ≥ 97
         ·
          rw [if_pos c11] at H
          have c11b0 : decide (97 ≤ (bt a0 x23_2)) = true := decide_eq_true c11
          clear c11
          by_cases c12 : (bt a0 x23_2) ≤ 122
          ·
           rw [if_pos c12] at H
           have c12b0 : decide ((bt a0 x23_2) ≤ 122) = true := decide_eq_true c12
           clear c12
           have H' := zK H
           clear H
           have p10 : 0 ≤ (x23_2 : Int) := zX (by first | (with_reducible assumption) | assumption)
           have q10 : x23_2 < (a0.size : Int) := zX (by first | (with_reducible assumption) | assumption)
           have hx10 := bt_at a0 x23_2
           replace p10 := eq_true p10
           replace q10 := eq_true q10
           go_wp2
           go_roundg k2
           case measure => have := HJ1.out; have := HK2.out; omega
           case rel => exact ⟨(wrap64 (x23_2 + 1)), (by first | rfl | (simp; done) | (simp [*]; done)), H', ⟨by have := HJ1.out; have := HK2.out; omega⟩, by repeat (first | exact Drawn0.refl _ | apply Drawn0.step)⟩
          ·
           rw [if_neg c12] at H
           have c12b0 : decide ((bt a0 x23_2) ≤ 122) = false := decide_eq_false c12
           clear c12
           by_cases c13 : (bt a0 x23_2) ≥ 48
           ·
            rw [if_pos c13] at H
            have c13b0 : decide (48 ≤ (bt a0 x23_2)) = true := decide_eq_true c13
            clear c13
            by_cases c14 : (bt a0 x23_2) ≤ 57
            ·
             rw [if_pos c14] at H
             have c14b0 : decide ((bt a0 x23_2) ≤ 57) = true := decide_eq_true c14
             clear c14
             have H' := zK H
             clear H
             have p10 : 0 ≤ (x23_2 : Int) := zX (by first | (with_reducible assumption) | assumption)
             have q10 : x23_2 < (a0.size : Int) := zX (by first | (with_reducible assumption) | assumption)
             have hx10 := bt_at a0 x23_2
             replace p10 := eq_true p10
             replace q10 := eq_true q10
             go_wp2
             go_roundg k2
             case measure => have := HJ1.out; have := HK2.out; omega
             case rel => exact ⟨(wrap64 (x23_2 + 1)), (by first | rfl | (simp; done) | (simp [*]; done)), H', ⟨by have := HJ1.out; have := HK2.out; omega⟩, by repeat (first | exact Drawn0.refl _ | apply Drawn0.step)⟩
            ·
             rw [if_neg c14] at H
             have c14b0 : decide ((bt a0 x23_2) ≤ 57) = false := decide_eq_false c14
             clear c14
             by_cases c15 : (bt a0 x23_2) = 46
             ·
              rw [if_pos c15] at H
              have c15b0 : ((bt a0 x23_2) == 46) = true := beq_iff_eq.mpr c15
              have c15b1 : ((bt a0 x23_2) != 46) = false := bne_eq_false_iff_eq.mpr c15
              clear c15
              have H' := zK H
              clear H
              have p10 : 0 ≤ (x23_2 : Int) := zX (by first | (with_reducible assumption) | assumption)
              have q10 : x23_2 < (a0.size : Int) := zX (by first | (with_reducible assumption) | assumption)
              have hx10 := bt_at a0 x23_2
              replace p10 := eq_true p10
              replace q10 := eq_true q10
              go_wp2
              go_roundg k2
              case measure => have := HJ1.out; have := HK2.out; omega
              case rel => exact ⟨(wrap64 (x23_2 + 1)), (by first | rfl | (simp; done) | (simp [*]; done)), H', ⟨by have := HJ1.out; have := HK2.out; omega⟩, by repeat (first | exact Drawn0.refl _ | apply Drawn0.step)⟩
             ·
              rw [if_neg c15] at H
              have c15b0 : ((bt a0 x23_2) == 46) = false := beq_eq_false_iff_ne.mpr c15
              have c15b1 : ((bt a0 x23_2) != 46) = true := bne_iff_ne.mpr c15
              by_cases c16 : (bt a0 x23_2) = 95
              ·
               rw [if_pos c16] at H
               have c16b0 : ((bt a0 x23_2) == 95) = true := beq_iff_eq.mpr c16
               have c16b1 : ((bt a0 x23_2) != 95) = false := bne_eq_false_iff_eq.mpr c16
               clear c16
               have H' := zK H
               clear H
               have p10 : 0 ≤ (x23_2 : Int) := zX (by first | (with_reducible assumption) | assumption)
               have q10 : x23_2 < (a0.size : Int) := zX (by first | (with_reducible assumption) | assumption)
               have hx10 := bt_at a0 x23_2
               replace p10 := eq_true p10
               replace q10 := eq_true q10
               go_wp2
               go_roundg k2
               case measure => have := HJ1.out; have := HK2.out; omega
               case rel => exact ⟨(wrap64 (x23_2 + 1)), (by first | rfl | (simp; done) | (simp [*]; done)), H', ⟨by have := HJ1.out; have := HK2.out; omega⟩, by repeat (first | exact Drawn0.refl _ | apply Drawn0.step)⟩
              ·
               rw [if_neg c16] at H
               have c16b0 : ((bt a0 x23_2) == 95) = false := beq_eq_false_iff_ne.mpr c16
               have c16b1 : ((bt a0 x23_2) != 95) = true := bne_iff_ne.mpr c16
               by_cases c17 : ((bt a0 x23_2) = 45)
               ·
                rw [if_pos c17] at H
                have c17b0 : ((bt a0 x23_2) == 45) = true := beq_iff_eq.mpr c17
                have c17b1 : ((bt a0 x23_2) != 45) = false := bne_eq_false_iff_eq.mpr c17
                clear c17
                have H' := zK H
                clear H
                have p10 : 0 ≤ (x23_2 : Int) := zX (by first | (with_reducible assumption) | assumption)
                have q10 : x23_2 < (a0.size : Int) := zX (by first | (with_reducible assumption) | assumption)
                have hx10 := bt_at a0 x23_2
                replace p10 := eq_true p10
                replace q10 := eq_true q10
                go_wp2
                go_roundg k2
                case measure => have := HJ1.out; have := HK2.out; omega
                case rel => exact ⟨(wrap64 (x23_2 + 1)), (by first | rfl | (simp; done) | (simp [*]; done)), H', ⟨by have := HJ1.out; have := HK2.out; omega⟩, by repeat (first | exact Drawn0.refl _ | apply Drawn0.step)⟩
               ·
                rw [if_neg c17] at H
                have c17b0 : ((bt a0 x23_2) == 45) = false := beq_eq_false_iff_ne.mpr c17
                have c17b1 : ((bt a0 x23_2) != 45) = true := bne_iff_ne.mpr c17
                obtain rfl := Option.some.inj H
                have p10 : 0 ≤ (x23_2 : Int) := zX (by first | (with_reducible assumption) | assumption)
                have q10 : x23_2 < (a0.size : Int) := zX (by first | (with_reducible assumption) | assumption)
                have hx10 := bt_at a0 x23_2
                replace p10 := eq_true p10
                replace q10 := eq_true q10
                go_wp2
                go_ret
                exact ⟨by first | rfl | (simp; done) | (simp [*]; done), by repeat (first | exact Drawn0.refl _ | apply Drawn0.step)⟩
           ·
            rw [if_neg c13] at H
            have c13b0 : decide (48 ≤ (bt a0 x23_2)) = false := decide_eq_false c13
            clear c13
            by_cases c18 : (bt a0 x23_2) = 46
            ·
             rw [if_pos c18] at H
             have c18b0 : ((bt a0 x23_2) == 46) = true := beq_iff_eq.mpr c18
             have c18b1 : ((bt a0 x23_2) != 46) = false := bne_eq_false_iff_eq.mpr c18
             clear c18
             have H' := zK H
             clear H
             have p10 : 0 ≤ (x23_2 : Int) := zX (by first | (with_reducible assumption) | assumption)
             have q10 : x23_2 < (a0.size : Int) := zX (by first | (with_reducible assumption) | assumption)
             have hx10 := bt_at a0 x23_2
             replace p10 := eq_true p10
             replace q10 := eq_true q10
             go_wp2
             go_roundg k2
             case measure => have := HJ1.out; have := HK2.out; omega
             case rel => exact ⟨(wrap64 (x23_2 + 1)), (by first | rfl | (simp; done) | (simp [*]; done)), H', ⟨by have := HJ1.out; have := HK2.out; omega⟩, by repeat (first | exact Drawn0.refl _ | apply Drawn0.step)⟩
            ·
             rw [if_neg c18] at H
             have c18b0 : ((bt a0 x23_2) == 46) = false := beq_eq_false_iff_ne.mpr c18
             have c18b1 : ((bt a0 x23_2) != 46) = true := bne_iff_ne.mpr c18
             by_cases c19 : (bt a0 x23_2) = 95
             ·
              rw [if_pos c19] at H
              have c19b0 : ((bt a0 x23_2) == 95) = true := beq_iff_eq.mpr c19
              have c19b1 : ((bt a0 x23_2) != 95) = false := bne_eq_false_iff_eq.mpr c19
              clear c19
              have H' := zK H
              clear H
              have p10 : 0 ≤ (x23_2 : Int) := zX (by first | (with_reducible assumption) | assumption)
              have q10 : x23_2 < (a0.size : Int) := zX (by first | (with_reducible assumption) | assumption)
              have hx10 := bt_at a0 x23_2
              replace p10 := eq_true p10
              replace q10 := eq_true q10
              go_wp2
              go_roundg k2
              case measure => have := HJ1.out; have := HK2.out; omega
              case rel => exact ⟨(wrap64 (x23_2 + 1)), (by first | rfl | (simp; done) | (simp [*]; done)), H', ⟨by have := HJ1.out; have := HK2.out; omega⟩, by repeat (first | exact Drawn0.refl _ | apply Drawn0.step)⟩
             ·
              rw [if_neg c19] at H
              have c19b0 : ((bt a0 x23_2) == 95) = false := beq_eq_false_iff_ne.mpr c19
              have c19b1 : ((bt a0 x23_2) != 95) = true := bne_iff_ne.mpr c19
              by_cases c20 : ((bt a0 x23_2) = 45)
              ·
               rw [if_pos c20] at H
               have c20b0 : ((bt a0 x23_2) == 45) = true := beq_iff_eq.mpr c20
               have c20b1 : ((bt a0 x23_2) != 45) = false := bne_eq_false_iff_eq.mpr c20
               clear c20
               have H' := zK H
               clear H
               have p10 : 0 ≤ (x23_2 : Int) := zX (by first | (with_reducible assumption) | assumption)
               have q10 : x23_2 < (a0.size : Int) := zX (by first | (with_reducible assumption) | assumption)
               have hx10 := bt_at a0 x23_2
               replace p10 := eq_true p10
               replace q10 := eq_true q10
               go_wp2
               go_roundg k2
               case measure => have := HJ1.out; have := HK2.out; omega
               case rel => exact ⟨(wrap64 (x23_2 + 1)), (by first | rfl | (simp; done) | (simp [*]; done)), H', ⟨by have := HJ1.out; have := HK2.out; omega⟩, by repeat (first | exact Drawn0.refl _ | apply Drawn0.step)⟩
              ·
               rw [if_neg c20] at H
               have c20b0 : ((bt a0 x23_2) == 45) = false := beq_eq_false_iff_ne.mpr c20
               have c20b1 : ((bt a0 x23_2) != 45) = true := bne_iff_ne.mpr c20
               obtain rfl := Option.some.inj H
               have p10 : 0 ≤ (x23_2 : Int) := zX (by first | (with_reducible assumption) | assumption)
               have q10 : x23_2 < (a0.size : Int) := zX (by first | (with_reducible assumption) | assumption)
               have hx10 := bt_at a0 x23_2
               replace p10 := eq_true p10
               replace q10 := eq_true q10
               go_wp2
               go_ret
               exact ⟨by first | rfl | (simp; done) | (simp [*]; done), by repeat (first | exact Drawn0.refl _ | apply Drawn0.step)⟩
         ·
          rw [if_neg c11] at H
          have c11b0 : decide (97 ≤ (bt a0 x23_2)) = false := decide_eq_false c11
          clear c11
          by_cases c21 : (bt a0 x23_2) ≥ 48
          ·
           rw [if_pos c21] at H
           have c21b0 : decide (48 ≤ (bt a0 x23_2)) = true := decide_eq_true c21
           clear c21
           by_cases c22 : (bt a0 x23_2) ≤ 57
           ·
            rw [if_pos c22] at H
            have c22b0 : decide ((bt a0 x23_2) ≤ 57) = true := decide_eq_true c22
            clear c22
            have H' := zK H
            clear H
            have p10 : 0 ≤ (x23_2 : Int) := zX (by first | (with_reducible assumption) | assumption)
            have q10 : x23_2 < (a0.size : Int) := zX (by first | (with_reducible assumption) | assumption)
            have hx10 := bt_at a0 x23_2
            replace p10 := eq_true p10
            replace q10 := eq_true q10
            go_wp2
            go_roundg k2
            case measure => have := HJ1.out; have := HK2.out; omega
            case rel => exact ⟨(wrap64 (x23_2 + 1)), (by first | rfl | (simp; done) | (simp [*]; done)), H', ⟨by have := HJ1.out; have := HK2.out; omega⟩, by repeat (first | exact Drawn0.refl _ | apply Drawn0.step)⟩
           ·
            rw [if_neg c22] at H
            have c22b0 : decide ((bt a0 x23_2) ≤ 57) = false := decide_eq_false c22
            clear c22
            by_cases c23 : (bt a0 x23_2) = 46
            ·
             rw [if_pos c23] at H
             have c23b0 : ((bt a0 x23_2) == 46) = true := beq_iff_eq.mpr c23
             have c23b1 : ((bt a0 x23_2) != 46) = false := bne_eq_false_iff_eq.mpr c23
             clear c23
             have H' := zK H
             clear H
             have p10 : 0 ≤ (x23_2 : Int) := zX (by first | (with_reducible assumption) | assumption)
             have q10 : x23_2 < (a0.size : Int) := zX (by first | (with_reducible assumption) | assumption)
             have hx10 := bt_at a0 x23_2
             replace p10 := eq_true p10
             replace q10 := eq_true q10
             go_wp2
             go_roundg k2
             case measure => have := HJ1.out; have := HK2.out; omega
             case rel => exact ⟨(wrap64 (x23_2 + 1)), (by first | rfl | (simp; done) | (simp [*]; done)), H', ⟨by have := HJ1.out; have := HK2.out; omega⟩, by repeat (first | exact Drawn0.refl _ | apply Drawn0.step)⟩
            ·
             rw [if_neg c23] at H
             have c23b0 : ((bt a0 x23_2) == 46) = false := beq_eq_false_iff_ne.mpr c23
             have c23b1 : ((bt a0 x23_2) != 46) = true := bne_iff_ne.mpr c23
             by_cases c24 : (bt a0 x23_2) = 95
             ·
              rw [if_pos c24] at H
              have c24b0 : ((bt a0 x23_2) == 95) = true := beq_iff_eq.mpr c24
              have c24b1 : ((bt a0 x23_2) != 95) = false := bne_eq_false_iff_eq.mpr c24
              clear c24
              have H' := zK H
              clear H
              have p10 : 0 ≤ (x23_2 : Int) := zX (by first | (with_reducible assumption) | assumption)
              have q10 : x23_2 < (a0.size : Int) := zX (by first | (with_reducible assumption) | assumption)
              have hx10 := bt_at a0 x23_2
              replace p10 := eq_true p10
              replace q10 := eq_true q10
              go_wp2
              go_roundg k2
              case measure => have := HJ1.out; have := HK2.out; omega
              case rel => exact ⟨(wrap64 (x23_2 + 1)), (by first | rfl | (simp; done) | (simp [*]; done)), H', ⟨by have := HJ1.out; have := HK2.out; omega⟩, by repeat (first | exact Drawn0.refl _ | apply Drawn0.step)⟩
             ·
              rw [if_neg c24] at H
              have c24b0 : ((bt a0 x23_2) == 95) = false := beq_eq_false_iff_ne.mpr c24
              have c24b1 : ((bt a0 x23_2) != 95) = true := bne_iff_ne.mpr c24
              by_cases c25 : ((bt a0 x23_2) = 45)
              ·
               rw [if_pos c25] at H
               have c25b0 : ((bt a0 x23_2) == 45) = true := beq_iff_eq.mpr c25
               have c25b1 : ((bt a0 x23_2) != 45) = false := bne_eq_false_iff_eq.mpr c25
               clear c25
               have H' := zK H
               clear H
               have p10 : 0 ≤ (x23_2 : Int) := zX (by first | (with_reducible assumption) | assumption)
               have q10 : x23_2 < (a0.size : Int) := zX (by first | (with_reducible assumption) | assumption)
               have hx10 := bt_at a0 x23_2
               replace p10 := eq_true p10
               replace q10 := eq_true q10
               go_wp2
               go_roundg k2
               case measure => have := HJ1.out; have := HK2.out; omega
               case rel => exact ⟨(wrap64 (x23_2 + 1)), (by first | rfl | (simp; done) | (simp [*]; done)), H', ⟨by have := HJ1.out; have := HK2.out; omega⟩, by repeat (first | exact Drawn0.refl _ | apply Drawn0.step)⟩
              ·
               rw [if_neg c25] at H
               have c25b0 : ((bt a0 x23_2) == 45) = false := beq_eq_false_iff_ne.mpr c25
               have c25b1 : ((bt a0 x23_2) != 45) = true := bne_iff_ne.mpr c25
               obtain rfl := Option.some.inj H
               have p10 : 0 ≤ (x23_2 : Int) := zX (by first | (with_reducible assumption) | assumption)
               have q10 : x23_2 < (a0.size : Int) := zX (by first | (with_reducible assumption) | assumption)
               have hx10 := bt_at a0 x23_2
               replace p10 := eq_true p10
               replace q10 := eq_true q10
               go_wp2
               go_ret
               exact ⟨by first | rfl | (simp; done) | (simp [*]; done), by repeat (first | exact Drawn0.refl _ | apply Drawn0.step)⟩
          ·
           rw [if_neg c21] at H
           have c21b0 : decide (48 ≤ (bt a0 x23_2)) = false := decide_eq_false c21
           clear c21
           by_cases c26 : (bt a0 x23_2) = 46
           ·
            rw [if_pos c26] at H
            have c26b0 : ((bt a0 x23_2) == 46) = true := beq_iff_eq.mpr c26
            have c26b1 : ((bt a0 x23_2) != 46) = false := bne_eq_false_iff_eq.mpr c26
            clear c26
            have H' := zK H
            clear H
            have p10 : 0 ≤ (x23_2 : Int) := zX (by first | (with_reducible assumption) | assumption)
            have q10 : x23_2 < (a0.size : Int) := zX (by first | (with_reducible assumption) | assumption)
            have hx10 := bt_at a0 x23_2
            replace p10 := eq_true p10
            replace q10 := eq_true q10
            go_wp2
            go_roundg k2
            case measure => have := HJ1.out; have := HK2.out; omega
            case rel => exact ⟨(wrap64 (x23_2 + 1)), (by first | rfl | (simp; done) | (simp [*]; done)), H', ⟨by have := HJ1.out; have := HK2.out; omega⟩, by repeat (first | exact Drawn0.refl _ | apply Drawn0.step)⟩
           ·
            rw [if_neg c26] at H
            have c26b0 : ((bt a0 x23_2) == 46) = false := beq_eq_false_iff_ne.mpr c26
            have c26b1 : ((bt a0 x23_2) != 46) = true := bne_iff_ne.mpr c26
            by_cases c27 : (bt a0 x23_2) = 95
            ·
             rw [if_pos c27] at H
             have c27b0 : ((bt a0 x23_2) == 95) = true := beq_iff_eq.mpr c27
             have c27b1 : ((bt a0 x23_2) != 95) = false := bne_eq_false_iff_eq.mpr c27
             clear c27
             have H' := zK H
             clear H
             have p10 : 0 ≤ (x23_2 : Int) := zX (by first | (with_reducible assumption) | assumption)
             have q10 : x23_2 < (a0.size : Int) := zX (by first | (with_reducible assumption) | assumption)
             have hx10 := bt_at a0 x23_2
             replace p10 := eq_true p10
             replace q10 := eq_true q10
             go_wp2
             go_roundg k2
             case measure => have := HJ1.out; have := HK2.out; omega
             case rel => exact ⟨(wrap64 (x23_2 + 1)), (by first | rfl | (simp; done) | (simp [*]; done)), H', ⟨by have := HJ1.out; have := HK2.out; omega⟩, by repeat (first | exact Drawn0.refl _ | apply Drawn0.step)⟩
            ·
             rw [if_neg c27] at H
             have c27b0 : ((bt a0 x23_2) == 95) = false := beq_eq_false_iff_ne.mpr c27
             have c27b1 : ((bt a0 x23_2) != 95) = true := bne_iff_ne.mpr c27
             by_cases c28 : ((bt a0 x23_2) = 45)
             ·
              rw [if_pos c28] at H
              have c28b0 : ((bt a0 x23_2) == 45) = true := beq_iff_eq.mpr c28
              have c28b1 : ((bt a0 x23_2) != 45) = false := bne_eq_false_iff_eq.mpr c28
              clear c28
              have H' := zK H
              clear H
              have p10 : 0 ≤ (x23_2 : Int) := zX (by first | (with_reducible assumption) | assumption)
              have q10 : x23_2 < (a0.size : Int) := zX (by first | (with_reducible assumption) | assumption)
              have hx10 := bt_at a0 x23_2
              replace p10 := eq_true p10
              replace q10 := eq_true q10
              go_wp2
              go_roundg k2
              case measure => have := HJ1.out; have := HK2.out; omega
              case rel => exact ⟨(wrap64 (x23_2 + 1)), (by first | rfl | (simp; done) | (simp [*]; done)), H', ⟨by have := HJ1.out; have := HK2.out; omega⟩, by repeat (first | exact Drawn0.refl _ | apply Drawn0.step)⟩
             ·
              rw [if_neg c28] at H
              have c28b0 : ((bt a0 x23_2) == 45) = false := beq_eq_false_iff_ne.mpr c28
              have c28b1 : ((bt a0 x23_2) != 45) = true := bne_iff_ne.mpr c28
              obtain rfl := Option.some.inj H
              have p10 : 0 ≤ (x23_2 : Int) := zX (by first | (with_reducible assumption) | assumption)
              have q10 : x23_2 < (a0.size : Int) := zX (by first | (with_reducible assumption) | assumption)
              have hx10 := bt_at a0 x23_2
              replace p10 := eq_true p10
              replace q10 := eq_true q10
              go_wp2
              go_ret
              exact ⟨by first | rfl | (simp; done) | (simp [*]; done), by repeat (first | exact Drawn0.refl _ | apply Drawn0.step)⟩
        ·
         rw [if_neg c9] at H
         exact absurd H (by simp)
       ·
        rw [if_neg c8] at H
        exact absurd H (by simp)
      ·
       rw [if_neg c7] at H
       have c7b0 : decide (x23_2 < (a0.size : Int)) = false := decide_eq_false c7
       clear c7
       obtain rfl := Option.some.inj H
       go_wp2
       go_ret
       exact ⟨by first | rfl | (simp; done) | (simp [*]; done), by repeat (first | exact Drawn0.refl _ | apply Drawn0.step)⟩

end Go.Proofs.YtjibadlbiapcmaaDoor.PX

namespace Go.Proofs.YtjibadlbiapcmaaDoorX
open Go Go.RowKit Go.Proofs.YtjibadlbiapcmaaDoorW.PrintWords Go.Proofs.YtjibadlbiapcmaaDoor.PX

def nameB (b : UInt8) : Bool := decide (97 ≤ b.toNat ∧ b.toNat ≤ 122 ∨ 48 ≤ b.toNat ∧ b.toNat ≤ 57 ∨ b.toNat = 46 ∨ b.toNat = 95 ∨ b.toNat = 45)
/-- A name: 1 to 12 bytes of the right kinds, and neither one dot nor two. -/
def nameM (l : List UInt8) : Bool := decide (1 ≤ l.length) && decide (l.length ≤ 12) && !(l == [46]) && !(l == [46, 46]) && l.all nameB

theorem byte_spec (b : UInt8) : spec_l6NameByte.f (b.toNat : Int) = some (nameB b) := by
  unfold spec_l6NameByte.f nameB
  generalize b.toNat = n
  (repeat' split) <;> first
    | (congr 1; symm; apply decide_eq_true; omega)
    | (congr 1; rw [Bool.eq_iff_iff, beq_iff_eq, decide_eq_true_iff]; omega)

def nameStep (s : ByteArray) (i : Nat) (_ : Unit) : Sum Int Unit := if nameB (s.data.toList.getD i 0) = true then .inr () else .inl 1

theorem run_name (s : ByteArray) : run (nameStep s) (fun _ => (0 : Int)) s.size 0 () = if s.data.toList.all nameB = true then 0 else 1 := by
  have key : ∀ d i, i + d = s.size → run (nameStep s) (fun _ => (0 : Int)) d i () = if (s.data.toList.drop i).all nameB = true then 0 else 1 := by
    intro d
    induction d with
    | zero =>
      intro i hi
      rw [run_zero, List.drop_of_length_le (by rw [← size_list]; omega)]
      rfl
    | succ d ih =>
      intro i hi
      have hlt : i < s.data.toList.length := by rw [← size_list]; omega
      have e : s.data.toList.getD i 0 = s.data.toList[i] := by rw [List.getD_eq_getElem?_getD, List.getElem?_eq_getElem hlt, Option.getD_some]
      rw [List.drop_eq_getElem_cons hlt, List.all_cons, ← e]
      cases h : nameB (s.data.toList.getD i 0) with
      | true => rw [run_on (s' := ()) (by unfold nameStep; rw [h]; rfl), ih (i + 1) (by omega), Bool.true_and]
      | false => rw [run_out (r := (1 : Int)) (by unfold nameStep; rw [h]; rfl)]; rfl
  exact key s.size 0 (by omega)

theorem name_ifs {α : Type} (s : ByteArray) (j : Bool → α) : (if (s.size : Int) < 1 then j true else if (s.size : Int) > 12 then j true else if s.toList = [46] then j true else j (s.toList == [46, 46])) =
    j (!(decide (1 ≤ s.data.toList.length) && decide (s.data.toList.length ≤ 12) && !(s.data.toList == [46]) && !(s.data.toList == [46, 46]))) := by
  rw [toList_eq, ← size_list]
  by_cases h1 : 1 ≤ s.size
  · rw [if_neg (by omega)]
    by_cases h2 : s.size ≤ 12
    · rw [if_neg (by omega)]
      by_cases h3 : s.data.toList = [46]
      · rw [if_pos h3]; simp [h3]
      · have h4 : (s.data.toList == [46]) = false := beq_eq_false_iff_ne.2 h3
        rw [if_neg h3, h4, decide_eq_true h1, decide_eq_true h2, Bool.not_false, Bool.and_self, Bool.and_self, Bool.true_and, Bool.not_not]
    · rw [if_pos (by omega)]; simp [h2]
  · rw [if_pos (by omega)]; simp [h1]

theorem spec_name (s : ByteArray) (k : Nat) (hk : s.size + 2 < k ∨ 16 < k) : spec_NameFault.f k s = some (if nameM s.data.toList = true then 0 else 1) := by
  unfold spec_NameFault.f
  rw [name_ifs s (spec_NameFault.j0 k s)]
  unfold nameM
  obtain ⟨k, rfl⟩ : ∃ m, k = m + 1 := ⟨k - 1, by omega⟩
  simp only [spec_NameFault.j0]
  cases hx : (decide (1 ≤ s.data.toList.length) && decide (s.data.toList.length ≤ 12) && !(s.data.toList == [46]) && !(s.data.toList == [46, 46])) with
  | false => rfl
  | true =>
    have hl : s.size ≤ 12 := by
      rw [size_list]
      simp only [Bool.and_eq_true, decide_eq_true_eq] at hx
      exact hx.1.1.2
    rw [if_neg (by decide), Bool.true_and, ← run_name]
    refine loop0 (F := fun k i (_ : Unit) => spec_NameFault.l0 k s (i : Int)) s.size 0 (fun _ _ => True) (fun _ _ _ _ _ _ => trivial) (fun k i _ _ hi _ => ?_) (fun k _ _ _ => ?_) () trivial k (by omega)
    · simp only [spec_NameFault.l0]
      rw [if_pos (by omega), if_pos (by omega), wrap_in (by omega) (by omega), bt_nat, byte_spec]
      unfold nameStep
      cases nameB (s.data.toList.getD i 0) <;> rfl
    · simp only [spec_NameFault.l0]
      rw [if_neg (by omega)]

theorem byte_impl {α : Type} (b : UInt8) (x y : α) :
    (if (b.toNat : Int) ≥ 97 then (if (b.toNat : Int) ≤ 122 then x else (if (b.toNat : Int) ≥ 48 then (if (b.toNat : Int) ≤ 57 then x else (if (b.toNat : Int) = 46 then x else (if (b.toNat : Int) = 95 then x else (if (b.toNat : Int) = 45 then x else y)))) else (if (b.toNat : Int) = 46 then x else (if (b.toNat : Int) = 95 then x else (if (b.toNat : Int) = 45 then x else y))))) else (if (b.toNat : Int) ≥ 48 then (if (b.toNat : Int) ≤ 57 then x else (if (b.toNat : Int) = 46 then x else (if (b.toNat : Int) = 95 then x else (if (b.toNat : Int) = 45 then x else y)))) else (if (b.toNat : Int) = 46 then x else (if (b.toNat : Int) = 95 then x else (if (b.toNat : Int) = 45 then x else y))))) = if nameB b = true then x else y := by
  unfold nameB
  generalize b.toNat = n
  by_cases h : 97 ≤ n ∧ n ≤ 122 ∨ 48 ≤ n ∧ n ≤ 57 ∨ n = 46 ∨ n = 95 ∨ n = 45
  · rw [if_pos (decide_eq_true h)]
    (repeat' split) <;> first | rfl | (exfalso; omega)
  · rw [if_neg (fun z => h (of_decide_eq_true z))]
    (repeat' split) <;> first | rfl | (exfalso; omega)

theorem impl_name (s : ByteArray) (k : Nat) (hk : s.size + 2 < k ∨ 16 < k) : impl_NameFault.f k s = some (if nameM s.data.toList = true then 0 else 1) := by
  unfold impl_NameFault.f
  rw [name_ifs s (impl_NameFault.j0 k s)]
  unfold nameM
  obtain ⟨k, rfl⟩ : ∃ m, k = m + 1 := ⟨k - 1, by omega⟩
  simp only [impl_NameFault.j0]
  cases hx : (decide (1 ≤ s.data.toList.length) && decide (s.data.toList.length ≤ 12) && !(s.data.toList == [46]) && !(s.data.toList == [46, 46])) with
  | false => rfl
  | true =>
    have hl : s.size ≤ 12 := by
      rw [size_list]
      simp only [Bool.and_eq_true, decide_eq_true_eq] at hx
      exact hx.1.1.2
    rw [if_neg (by decide), Bool.true_and, ← run_name]
    refine loop0 (F := fun k i (_ : Unit) => impl_NameFault.l0 k s (s.size : Int) (i : Int)) s.size 0 (fun _ _ => True) (fun _ _ _ _ _ _ => trivial) (fun k i _ _ hi _ => ?_) (fun k _ _ _ => ?_) () trivial k (by omega)
    · simp only [impl_NameFault.l0]
      rw [if_pos (by omega), if_pos (by omega), if_pos (by omega), wrap_in (by omega) (by omega), bt_nat, byte_impl]
      unfold nameStep
      cases nameB (s.data.toList.getD i 0) <;> rfl
    · simp only [impl_NameFault.l0]
      rw [if_neg (by omega)]
end Go.Proofs.YtjibadlbiapcmaaDoorX

namespace Go.Proofs.YtjibadlbiapcmaaDoor.PX
open Go.RowKit Go.Proofs.YtjibadlbiapcmaaDoorW.PrintWords Go.Proofs.YtjibadlbiapcmaaDoorW.PrintLast Go.Proofs.YtjibadlbiapcmaaDoorW.PrintMore
attribute [local go_sem] max2_int min2_int max_two min_two max_three min_three max_four min_four   -- for this text's walks alone
set_option linter.unusedVariables false
set_option linter.unusedSimpArgs false

/-! ### impl_isFileMode: function 104 -/
def impl_isFileMode.f (a0 : Int) : Option (Bool) := if a0 = 1 then (some true) else (some (a0 == 2))
set_option maxHeartbeats 8000000 in
set_option maxRecDepth 100000 in
theorem impl_isFileMode.calls (a0 : Int) (r : Bool) (w : World) (h : impl_isFileMode.f a0 = some r) :
  Calls Tryd.prog 104 #[.int .i64 a0] w fun e w' => e = .returned (.bool r) ∧ Drawn0 w w' := by
 have H : (if a0 = 1 then (some true) else (some (a0 == 2))) = some r := h
 clear h
 by_cases c2 : a0 = 1
 ·
  rw [if_pos c2] at H
  have c2b0 : (a0 == 1) = true := beq_iff_eq.mpr c2
  have c2b1 : (a0 != 1) = false := bne_eq_false_iff_eq.mpr c2
  clear c2
  obtain rfl := Option.some.inj H
  go_enter Tryd.func104, Tryd.ntmps104
  go_wp2
  go_ret
  exact ⟨by first | rfl | (simp; done) | (simp [*]; done), by repeat (first | exact Drawn0.refl _ | apply Drawn0.step)⟩
 ·
  rw [if_neg c2] at H
  have c2b0 : (a0 == 1) = false := beq_eq_false_iff_ne.mpr c2
  have c2b1 : (a0 != 1) = true := bne_iff_ne.mpr c2
  obtain rfl := Option.some.inj H
  go_enter Tryd.func104, Tryd.ntmps104
  go_wp2
  go_ret
  exact ⟨by first | rfl | (simp; done) | (simp [*]; done), by repeat (first | exact Drawn0.refl _ | apply Drawn0.step)⟩


/-! ### cmp_Or_int: function 152 -/
def cmp_Or_int.l0 : Nat → Int → List Int → Int → Int → Option (Int)
 | 0, _, _, _, _ => none
 | k + 1, x3, x6, x7, x8 => if x8 < x7 then (if 0 ≤ x8 then (if x8 < (x6.length : Int) then (if (rd x6 x8) = x3 then (cmp_Or_int.l0 k x3 x6 x7 (wrap64 (x8 + 1))) else (some (rd x6 x8))) else (none)) else (none)) else (some x3)
def cmp_Or_int.f (k : Nat) (l0 : List Int) : Option (Int) := cmp_Or_int.l0 k 0 l0 (l0.length : Int) 0
theorem cmp_Or_int.mono_l : ∀ k, (∀ y0 y1 y2 y3, LeO (cmp_Or_int.l0 k y0 y1 y2 y3) (cmp_Or_int.l0 (k + 1) y0 y1 y2 y3))
 | 0 => fun _ _ _ _ r h => by simp [cmp_Or_int.l0] at h
 | k + 1 => by
  have ih0 := cmp_Or_int.mono_l k
  ·
   intro y0 y1 y2 y3
   unfold cmp_Or_int.l0
   repeat' first
   | (with_reducible exact ih0 _ _ _ _)
   | (with_reducible exact LeO.refl _)
   | (with_reducible exact LeO.none _)
   | (with_reducible refine LeO.ite ?_ ?_)
   | (with_reducible refine LeO.bind ?_ (fun _ => ?_))
   | exact ih0 _ _ _ _
   | exact LeO.none _
   | refine LeO.ite ?_ ?_
   | refine LeO.bind ?_ (fun _ => ?_)
theorem cmp_Or_int.mono : ∀ a0 k, LeO (cmp_Or_int.f k a0) (cmp_Or_int.f (k + 1) a0) := by
 intro a0 k
 have ih0 := cmp_Or_int.mono_l k
 unfold cmp_Or_int.f
 repeat' first
   | (with_reducible exact ih0 _ _ _ _)
   | (with_reducible exact LeO.refl _)
   | (with_reducible exact LeO.none _)
   | (with_reducible refine LeO.ite ?_ ?_)
   | (with_reducible refine LeO.bind ?_ (fun _ => ?_))
   | exact ih0 _ _ _ _
   | exact LeO.none _
   | refine LeO.ite ?_ ?_
   | refine LeO.bind ?_ (fun _ => ?_)
set_option maxHeartbeats 8000000 in
set_option maxRecDepth 100000 in
theorem cmp_Or_int.calls (k : Nat) (A0 : Option Addr) (c0 : Nat) (l0 : List Int) (r : Int) (w : World) (hr0 : Kd.C (Kd.int .i64) w A0 l0.length l0) (hc0 : l0.length ≤ c0) (h : cmp_Or_int.f k l0 = some r) :
  Calls Tryd.prog 152 #[.slice A0 l0.length c0] w fun e w' => e = .returned (.int .i64 r) ∧ Drawn0 w w' := by
 have HR0 := zK hr0
 have HC0 := zK hc0
 clear hr0 hc0
 have H : (cmp_Or_int.l0 k 0 l0 (l0.length : Int) 0) = some r := h
 clear h
 have H' := zK H
 clear H
 go_enter Tryd.func152, Tryd.ntmps152
 go_wp2
 go_loopg [8] k (fun kq v8 w' => ∃ (x8_1 : Int), v8 = .int .i64 x8_1 ∧ Aside0 (cmp_Or_int.l0 kq 0 l0 (l0.length : Int) x8_1 = some r) ∧ Aside0 (kq ≤ k) ∧ Drawn0 w w')
 case atStart => exact ⟨(0), (by first | rfl | (simp; done) | (simp [*]; done)), H', ⟨Nat.le_refl _⟩, by repeat (first | exact Drawn0.refl _ | apply Drawn0.step)⟩
 case round =>
  clear H'
  try clear c1
  obtain ⟨x8_1, rfl, HA, HK1, ⟨m1, rfl⟩⟩ := hrel
  cases gk with
  | zero => exact absurd HA.out (by simp [cmp_Or_int.l0])
  | succ k1 =>
   have H := HA.out
   clear HA
   simp only [cmp_Or_int.l0] at H
   by_cases c2 : x8_1 < (l0.length : Int)
   ·
    rw [if_pos c2] at H
    have c2b0 : decide (x8_1 < (l0.length : Int)) = true := decide_eq_true c2
    clear c2
    by_cases c3 : 0 ≤ x8_1
    ·
     rw [if_pos c3] at H
     have c3b0 : decide (0 ≤ x8_1) = true := decide_eq_true c3
     clear c3
     by_cases c4 : x8_1 < (l0.length : Int)
     ·
      rw [if_pos c4] at H
      have c4b0 : decide (x8_1 < (l0.length : Int)) = true := decide_eq_true c4
      clear c4
      by_cases c5 : (rd l0 x8_1) = 0
      ·
       rw [if_pos c5] at H
       have c5b0 : ((rd l0 x8_1) == 0) = true := beq_iff_eq.mpr c5
       have c5b1 : ((rd l0 x8_1) != 0) = false := bne_eq_false_iff_eq.mpr c5
       clear c5
       have H' := zK H
       clear H
       have p648 : 0 ≤ (x8_1 : Int) := zX (by first | (with_reducible assumption) | assumption)
       have q648 : x8_1 < (l0.length : Int) := zX (by first | (with_reducible assumption) | assumption)
       obtain ⟨ad648, e648, hx648_0⟩ := Kd.at_int HR0.out x8_1 p648 q648
       cases e648
       replace p648 := eq_true p648
       replace q648 := eq_true q648
       go_wp2
       go_roundg k1
       case measure => have := HK1.out; omega
       case rel => exact ⟨(wrap64 (x8_1 + 1)), (by first | rfl | (simp; done) | (simp [*]; done)), H', ⟨by have := HK1.out; omega⟩, by repeat (first | exact Drawn0.refl _ | apply Drawn0.step)⟩
      ·
       rw [if_neg c5] at H
       have c5b0 : ((rd l0 x8_1) == 0) = false := beq_eq_false_iff_ne.mpr c5
       have c5b1 : ((rd l0 x8_1) != 0) = true := bne_iff_ne.mpr c5
       obtain rfl := Option.some.inj H
       have p648 : 0 ≤ (x8_1 : Int) := zX (by first | (with_reducible assumption) | assumption)
       have q648 : x8_1 < (l0.length : Int) := zX (by first | (with_reducible assumption) | assumption)
       obtain ⟨ad648, e648, hx648_0⟩ := Kd.at_int HR0.out x8_1 p648 q648
       cases e648
       replace p648 := eq_true p648
       replace q648 := eq_true q648
       go_wp2
       go_ret
       exact ⟨by first | rfl | (simp; done) | (simp [*]; done), by repeat (first | exact Drawn0.refl _ | apply Drawn0.step)⟩
     ·
      rw [if_neg c4] at H
      exact absurd H (by simp)
    ·
     rw [if_neg c3] at H
     exact absurd H (by simp)
   ·
    rw [if_neg c2] at H
    have c2b0 : decide (x8_1 < (l0.length : Int)) = false := decide_eq_false c2
    clear c2
    obtain rfl := Option.some.inj H
    go_wp2
    go_ret
    exact ⟨by first | rfl | (simp; done) | (simp [*]; done), by repeat (first | exact Drawn0.refl _ | apply Drawn0.step)⟩


/-! ### cmp_isNaN_int64: function 176 -/
def cmp_isNaN_int64.f (a0 : Int) : Option (Bool) := some (a0 != a0)
set_option maxHeartbeats 8000000 in
set_option maxRecDepth 100000 in
theorem cmp_isNaN_int64.calls (a0 : Int) (r : Bool) (w : World) (h : cmp_isNaN_int64.f a0 = some r) :
  Calls Tryd.prog 176 #[.int .i64 a0] w fun e w' => e = .returned (.bool r) ∧ Drawn0 w w' := by
 have H : (some (a0 != a0)) = some r := h
 clear h
 obtain rfl := Option.some.inj H
 go_enter Tryd.func176, Tryd.ntmps176
 go_wp2
 go_ret
 exact ⟨by first | rfl | (simp; done) | (simp [*]; done), by repeat (first | exact Drawn0.refl _ | apply Drawn0.step)⟩


/-! ### cmp_Compare_int64: function 153 -/
def cmp_Compare_int64.f (a0 : Int) (a1 : Int) : Option (Int) := (cmp_isNaN_int64.f a0).bind fun t649 => ((cmp_isNaN_int64.f a1).bind fun t650 => (if t649 = true then (if t650 = true then (some 0) else (some (-1))) else (if t650 = true then (some 1) else (if a0 < a1 then (some (-1)) else (if a0 > a1 then (some 1) else (some 0))))))
set_option maxHeartbeats 8000000 in
set_option maxRecDepth 100000 in
theorem cmp_Compare_int64.calls (a0 : Int) (a1 : Int) (r : Int) (w : World) (h : cmp_Compare_int64.f a0 a1 = some r) :
  Calls Tryd.prog 153 #[.int .i64 a0, .int .i64 a1] w fun e w' => e = .returned (.int .i64 r) ∧ Drawn0 w w' := by
 have H : ((cmp_isNaN_int64.f a0).bind fun t649 => ((cmp_isNaN_int64.f a1).bind fun t650 => (if t649 = true then (if t650 = true then (some 0) else (some (-1))) else (if t650 = true then (some 1) else (if a0 < a1 then (some (-1)) else (if a0 > a1 then (some 1) else (some 0))))))) = some r := h
 clear h
 replace H := Option.bind_eq_some_iff.mp H
 obtain ⟨t649, A30, H⟩ := H
 replace H : ((cmp_isNaN_int64.f a1).bind fun t650 => (if t649 = true then (if t650 = true then (some 0) else (some (-1))) else (if t650 = true then (some 1) else (if a0 < a1 then (some (-1)) else (if a0 > a1 then (some 1) else (some 0)))))) = some r := H
 have A3 := zK A30
 clear A30
 replace H := Option.bind_eq_some_iff.mp H
 obtain ⟨t650, A40, H⟩ := H
 replace H : (if t649 = true then (if t650 = true then (some 0) else (some (-1))) else (if t650 = true then (some 1) else (if a0 < a1 then (some (-1)) else (if a0 > a1 then (some 1) else (some 0))))) = some r := H
 have A4 := zK A40
 clear A40
 by_cases c5 : t649 = true
 ·
  subst c5
  have H1 : (if t650 = true then (some 0) else (some (-1))) = some r := by rw [if_pos rfl] at H; exact H
  clear H
  have H := H1
  clear H1
  by_cases c6 : t650 = true
  ·
   subst c6
   have H1 : (some 0) = some r := by rw [if_pos rfl] at H; exact H
   clear H
   have H := H1
   clear H1
   obtain rfl := Option.some.inj H
   go_enter Tryd.func153, Tryd.ntmps153
   go_wp2_with (first | ((with_reducible refine gate_callee (f := 176) rfl ?_); refine goesL_ (some 8) rfl rfl Tryd.func176 (by kernel_rfl) rfl #[.int .i64 a0] rfl (by (try simp only [List.map_toArray, List.map_cons, List.map_nil]); first | done | rfl | (simp only [List.length_drop, List.length_take]; rfl)) ?_; (with_reducible refine (cmp_isNaN_int64.calls a0 true _ A3.out).mono ?_); rintro e w' ⟨rfl, ⟨nd, rfl⟩⟩; refine ⟨_, rfl, ?_⟩) | ((with_reducible refine gate_callee (f := 176) rfl ?_); refine goesL_ (some 10) rfl rfl Tryd.func176 (by kernel_rfl) rfl #[.int .i64 a1] rfl (by (try simp only [List.map_toArray, List.map_cons, List.map_nil]); first | done | rfl | (simp only [List.length_drop, List.length_take]; rfl)) ?_; (with_reducible refine (cmp_isNaN_int64.calls a1 true _ A4.out).mono ?_); rintro e w' ⟨rfl, ⟨nd, rfl⟩⟩; refine ⟨_, rfl, ?_⟩))
   go_ret
   exact ⟨by first | rfl | (simp; done) | (simp [*]; done), by repeat (first | exact Drawn0.refl _ | apply Drawn0.step)⟩
  ·
   replace c6 := Bool.eq_false_iff.mpr c6
   subst c6
   have H1 : (some (-1)) = some r := by rw [if_neg (show ¬ (false = true) by decide)] at H; exact H
   clear H
   have H := H1
   clear H1
   obtain rfl := Option.some.inj H
   go_enter Tryd.func153, Tryd.ntmps153
   go_wp2_with (first | ((with_reducible refine gate_callee (f := 176) rfl ?_); refine goesL_ (some 8) rfl rfl Tryd.func176 (by kernel_rfl) rfl #[.int .i64 a0] rfl (by (try simp only [List.map_toArray, List.map_cons, List.map_nil]); first | done | rfl | (simp only [List.length_drop, List.length_take]; rfl)) ?_; (with_reducible refine (cmp_isNaN_int64.calls a0 true _ A3.out).mono ?_); rintro e w' ⟨rfl, ⟨nd, rfl⟩⟩; refine ⟨_, rfl, ?_⟩) | ((with_reducible refine gate_callee (f := 176) rfl ?_); refine goesL_ (some 10) rfl rfl Tryd.func176 (by kernel_rfl) rfl #[.int .i64 a1] rfl (by (try simp only [List.map_toArray, List.map_cons, List.map_nil]); first | done | rfl | (simp only [List.length_drop, List.length_take]; rfl)) ?_; (with_reducible refine (cmp_isNaN_int64.calls a1 false _ A4.out).mono ?_); rintro e w' ⟨rfl, ⟨nd, rfl⟩⟩; refine ⟨_, rfl, ?_⟩))
   go_ret
   exact ⟨by first | rfl | (simp; done) | (simp [*]; done), by repeat (first | exact Drawn0.refl _ | apply Drawn0.step)⟩
 ·
  replace c5 := Bool.eq_false_iff.mpr c5
  subst c5
  have H1 : (if t650 = true then (some 1) else (if a0 < a1 then (some (-1)) else (if a0 > a1 then (some 1) else (some 0)))) = some r := by rw [if_neg (show ¬ (false = true) by decide)] at H; exact H
  clear H
  have H := H1
  clear H1
  by_cases c7 : t650 = true
  ·
   subst c7
   have H1 : (some 1) = some r := by rw [if_pos rfl] at H; exact H
   clear H
   have H := H1
   clear H1
   obtain rfl := Option.some.inj H
   go_enter Tryd.func153, Tryd.ntmps153
   go_wp2_with (first | ((with_reducible refine gate_callee (f := 176) rfl ?_); refine goesL_ (some 8) rfl rfl Tryd.func176 (by kernel_rfl) rfl #[.int .i64 a0] rfl (by (try simp only [List.map_toArray, List.map_cons, List.map_nil]); first | done | rfl | (simp only [List.length_drop, List.length_take]; rfl)) ?_; (with_reducible refine (cmp_isNaN_int64.calls a0 false _ A3.out).mono ?_); rintro e w' ⟨rfl, ⟨nd, rfl⟩⟩; refine ⟨_, rfl, ?_⟩) | ((with_reducible refine gate_callee (f := 176) rfl ?_); refine goesL_ (some 10) rfl rfl Tryd.func176 (by kernel_rfl) rfl #[.int .i64 a1] rfl (by (try simp only [List.map_toArray, List.map_cons, List.map_nil]); first | done | rfl | (simp only [List.length_drop, List.length_take]; rfl)) ?_; (with_reducible refine (cmp_isNaN_int64.calls a1 true _ A4.out).mono ?_); rintro e w' ⟨rfl, ⟨nd, rfl⟩⟩; refine ⟨_, rfl, ?_⟩))
   go_ret
   exact ⟨by first | rfl | (simp; done) | (simp [*]; done), by repeat (first | exact Drawn0.refl _ | apply Drawn0.step)⟩
  ·
   replace c7 := Bool.eq_false_iff.mpr c7
   subst c7
   have H1 : (if a0 < a1 then (some (-1)) else (if a0 > a1 then (some 1) else (some 0))) = some r := by rw [if_neg (show ¬ (false = true) by decide)] at H; exact H
   clear H
   have H := H1
   clear H1
   by_cases c8 : a0 < a1
   ·
    rw [if_pos c8] at H
    have c8b0 : decide (a0 < a1) = true := decide_eq_true c8
    clear c8
    obtain rfl := Option.some.inj H
    go_enter Tryd.func153, Tryd.ntmps153
    go_wp2_with (first | ((with_reducible refine gate_callee (f := 176) rfl ?_); refine goesL_ (some 8) rfl rfl Tryd.func176 (by kernel_rfl) rfl #[.int .i64 a0] rfl (by (try simp only [List.map_toArray, List.map_cons, List.map_nil]); first | done | rfl | (simp only [List.length_drop, List.length_take]; rfl)) ?_; (with_reducible refine (cmp_isNaN_int64.calls a0 false _ A3.out).mono ?_); rintro e w' ⟨rfl, ⟨nd, rfl⟩⟩; refine ⟨_, rfl, ?_⟩) | ((with_reducible refine gate_callee (f := 176) rfl ?_); refine goesL_ (some 10) rfl rfl Tryd.func176 (by kernel_rfl) rfl #[.int .i64 a1] rfl (by (try simp only [List.map_toArray, List.map_cons, List.map_nil]); first | done | rfl | (simp only [List.length_drop, List.length_take]; rfl)) ?_; (with_reducible refine (cmp_isNaN_int64.calls a1 false _ A4.out).mono ?_); rintro e w' ⟨rfl, ⟨nd, rfl⟩⟩; refine ⟨_, rfl, ?_⟩))
    go_ret
    exact ⟨by first | rfl | (simp; done) | (simp [*]; done), by repeat (first | exact Drawn0.refl _ | apply Drawn0.step)⟩
   ·
    rw [if_neg c8] at H
    have c8b0 : decide (a0 < a1) = false := decide_eq_false c8
    clear c8
    by_cases c9 : a0 > a1
    ·
     rw [if_pos c9] at H
     have c9b0 : decide (a1 < a0) = true := decide_eq_true c9
     clear c9
     obtain rfl := Option.some.inj H
     go_enter Tryd.func153, Tryd.ntmps153
     go_wp2_with (first | ((with_reducible refine gate_callee (f := 176) rfl ?_); refine goesL_ (some 8) rfl rfl Tryd.func176 (by kernel_rfl) rfl #[.int .i64 a0] rfl (by (try simp only [List.map_toArray, List.map_cons, List.map_nil]); first | done | rfl | (simp only [List.length_drop, List.length_take]; rfl)) ?_; (with_reducible refine (cmp_isNaN_int64.calls a0 false _ A3.out).mono ?_); rintro e w' ⟨rfl, ⟨nd, rfl⟩⟩; refine ⟨_, rfl, ?_⟩) | ((with_reducible refine gate_callee (f := 176) rfl ?_); refine goesL_ (some 10) rfl rfl Tryd.func176 (by kernel_rfl) rfl #[.int .i64 a1] rfl (by (try simp only [List.map_toArray, List.map_cons, List.map_nil]); first | done | rfl | (simp only [List.length_drop, List.length_take]; rfl)) ?_; (with_reducible refine (cmp_isNaN_int64.calls a1 false _ A4.out).mono ?_); rintro e w' ⟨rfl, ⟨nd, rfl⟩⟩; refine ⟨_, rfl, ?_⟩))
     go_ret
     exact ⟨by first | rfl | (simp; done) | (simp [*]; done), by repeat (first | exact Drawn0.refl _ | apply Drawn0.step)⟩
    ·
     rw [if_neg c9] at H
     have c9b0 : decide (a1 < a0) = false := decide_eq_false c9
     clear c9
     obtain rfl := Option.some.inj H
     go_enter Tryd.func153, Tryd.ntmps153
     go_wp2_with (first | ((with_reducible refine gate_callee (f := 176) rfl ?_); refine goesL_ (some 8) rfl rfl Tryd.func176 (by kernel_rfl) rfl #[.int .i64 a0] rfl (by (try simp only [List.map_toArray, List.map_cons, List.map_nil]); first | done | rfl | (simp only [List.length_drop, List.length_take]; rfl)) ?_; (with_reducible refine (cmp_isNaN_int64.calls a0 false _ A3.out).mono ?_); rintro e w' ⟨rfl, ⟨nd, rfl⟩⟩; refine ⟨_, rfl, ?_⟩) | ((with_reducible refine gate_callee (f := 176) rfl ?_); refine goesL_ (some 10) rfl rfl Tryd.func176 (by kernel_rfl) rfl #[.int .i64 a1] rfl (by (try simp only [List.map_toArray, List.map_cons, List.map_nil]); first | done | rfl | (simp only [List.length_drop, List.length_take]; rfl)) ?_; (with_reducible refine (cmp_isNaN_int64.calls a1 false _ A4.out).mono ?_); rintro e w' ⟨rfl, ⟨nd, rfl⟩⟩; refine ⟨_, rfl, ?_⟩))
     go_ret
     exact ⟨by first | rfl | (simp; done) | (simp [*]; done), by repeat (first | exact Drawn0.refl _ | apply Drawn0.step)⟩


/-! ### impl_firstCode: function 53 -/
def impl_firstCode.l0 : Nat → List Int → Int → Int → Option (Int)
 | 0, _, _, _ => none
 | k + 1, x5, x6, x7 => if x7 < x6 then (if 0 ≤ x7 then (if x7 < (x5.length : Int) then (if (rd x5 x7) = 0 then (impl_firstCode.l0 k x5 x6 (wrap64 (x7 + 1))) else (some (rd x5 x7))) else (none)) else (none)) else (some 0)
def impl_firstCode.f (k : Nat) (l0 : List Int) : Option (Int) := impl_firstCode.l0 k l0 (l0.length : Int) 0
theorem impl_firstCode.mono_l : ∀ k, (∀ y0 y1 y2, LeO (impl_firstCode.l0 k y0 y1 y2) (impl_firstCode.l0 (k + 1) y0 y1 y2))
 | 0 => fun _ _ _ r h => by simp [impl_firstCode.l0] at h
 | k + 1 => by
  have ih0 := impl_firstCode.mono_l k
  ·
   intro y0 y1 y2
   unfold impl_firstCode.l0
   repeat' first
   | (with_reducible exact ih0 _ _ _)
   | (with_reducible exact LeO.refl _)
   | (with_reducible exact LeO.none _)
   | (with_reducible refine LeO.ite ?_ ?_)
   | (with_reducible refine LeO.bind ?_ (fun _ => ?_))
   | exact ih0 _ _ _
   | exact LeO.none _
   | refine LeO.ite ?_ ?_
   | refine LeO.bind ?_ (fun _ => ?_)
theorem impl_firstCode.mono : ∀ a0 k, LeO (impl_firstCode.f k a0) (impl_firstCode.f (k + 1) a0) := by
 intro a0 k
 have ih0 := impl_firstCode.mono_l k
 unfold impl_firstCode.f
 repeat' first
   | (with_reducible exact ih0 _ _ _)
   | (with_reducible exact LeO.refl _)
   | (with_reducible exact LeO.none _)
   | (with_reducible refine LeO.ite ?_ ?_)
   | (with_reducible refine LeO.bind ?_ (fun _ => ?_))
   | exact ih0 _ _ _
   | exact LeO.none _
   | refine LeO.ite ?_ ?_
   | refine LeO.bind ?_ (fun _ => ?_)
set_option maxHeartbeats 8000000 in
set_option maxRecDepth 100000 in
theorem impl_firstCode.calls (k : Nat) (A0 : Option Addr) (c0 : Nat) (l0 : List Int) (r : Int) (w : World) (hr0 : Kd.C (Kd.int .i64) w A0 l0.length l0) (hc0 : l0.length ≤ c0) (h : impl_firstCode.f k l0 = some r) :
  Calls Tryd.prog 53 #[.slice A0 l0.length c0] w fun e w' => e = .returned (.int .i64 r) ∧ Drawn0 w w' := by
 have HR0 := zK hr0
 have HC0 := zK hc0
 clear hr0 hc0
 have H : (impl_firstCode.l0 k l0 (l0.length : Int) 0) = some r := h
 clear h
 have H' := zK H
 clear H
 go_enter Tryd.func53, Tryd.ntmps53
 go_wp2
 go_loopg [7] k (fun kq v7 w' => ∃ (x7_1 : Int), v7 = .int .i64 x7_1 ∧ Aside0 (impl_firstCode.l0 kq l0 (l0.length : Int) x7_1 = some r) ∧ Aside0 (kq ≤ k) ∧ Drawn0 w w')
 case atStart => exact ⟨(0), (by first | rfl | (simp; done) | (simp [*]; done)), H', ⟨Nat.le_refl _⟩, by repeat (first | exact Drawn0.refl _ | apply Drawn0.step)⟩
 case round =>
  clear H'
  obtain ⟨x7_1, rfl, HA, HK1, ⟨m1, rfl⟩⟩ := hrel
  cases gk with
  | zero => exact absurd HA.out (by simp [impl_firstCode.l0])
  | succ k1 =>
   have H := HA.out
   clear HA
   simp only [impl_firstCode.l0] at H
   by_cases c2 : x7_1 < (l0.length : Int)
   ·
    rw [if_pos c2] at H
    have c2b0 : decide (x7_1 < (l0.length : Int)) = true := decide_eq_true c2
    clear c2
    by_cases c3 : 0 ≤ x7_1
    ·
     rw [if_pos c3] at H
     have c3b0 : decide (0 ≤ x7_1) = true := decide_eq_true c3
     clear c3
     by_cases c4 : x7_1 < (l0.length : Int)
     ·
      rw [if_pos c4] at H
      have c4b0 : decide (x7_1 < (l0.length : Int)) = true := decide_eq_true c4
      clear c4
      by_cases c5 : (rd l0 x7_1) = 0
      ·
       rw [if_pos c5] at H
       have c5b0 : ((rd l0 x7_1) == 0) = true := beq_iff_eq.mpr c5
       have c5b1 : ((rd l0 x7_1) != 0) = false := bne_eq_false_iff_eq.mpr c5
       clear c5
       have H' := zK H
       clear H
       have p200 : 0 ≤ (x7_1 : Int) := zX (by first | (with_reducible assumption) | assumption)
       have q200 : x7_1 < (l0.length : Int) := zX (by first | (with_reducible assumption) | assumption)
       obtain ⟨ad200, e200, hx200_0⟩ := Kd.at_int HR0.out x7_1 p200 q200
       cases e200
       replace p200 := eq_true p200
       replace q200 := eq_true q200
       go_wp2
       go_roundg k1
       case measure => have := HK1.out; omega
       case rel => exact ⟨(wrap64 (x7_1 + 1)), (by first | rfl | (simp; done) | (simp [*]; done)), H', ⟨by have := HK1.out; omega⟩, by repeat (first | exact Drawn0.refl _ | apply Drawn0.step)⟩
      ·
       rw [if_neg c5] at H
       have c5b0 : ((rd l0 x7_1) == 0) = false := beq_eq_false_iff_ne.mpr c5
       have c5b1 : ((rd l0 x7_1) != 0) = true := bne_iff_ne.mpr c5
       obtain rfl := Option.some.inj H
       have p200 : 0 ≤ (x7_1 : Int) := zX (by first | (with_reducible assumption) | assumption)
       have q200 : x7_1 < (l0.length : Int) := zX (by first | (with_reducible assumption) | assumption)
       obtain ⟨ad200, e200, hx200_0⟩ := Kd.at_int HR0.out x7_1 p200 q200
       cases e200
       replace p200 := eq_true p200
       replace q200 := eq_true q200
       go_wp2
       go_ret
       exact ⟨by first | rfl | (simp; done) | (simp [*]; done), by repeat (first | exact Drawn0.refl _ | apply Drawn0.step)⟩
     ·
      rw [if_neg c4] at H
      exact absurd H (by simp)
    ·
     rw [if_neg c3] at H
     exact absurd H (by simp)
   ·
    rw [if_neg c2] at H
    have c2b0 : decide (x7_1 < (l0.length : Int)) = false := decide_eq_false c2
    clear c2
    obtain rfl := Option.some.inj H
    go_wp2
    go_ret
    exact ⟨by first | rfl | (simp; done) | (simp [*]; done), by repeat (first | exact Drawn0.refl _ | apply Drawn0.step)⟩


/-! ### impl_codeIf: function 55 -/
def impl_codeIf.f (a0 : Bool) (a1 : Int) : Option (Int) := if a0 = true then (some a1) else (some 0)
set_option maxHeartbeats 8000000 in
set_option maxRecDepth 100000 in
theorem impl_codeIf.calls (a0 : Bool) (a1 : Int) (r : Int) (w : World) (h : impl_codeIf.f a0 a1 = some r) :
  Calls Tryd.prog 55 #[.bool a0, .int .i64 a1] w fun e w' => e = .returned (.int .i64 r) ∧ Drawn0 w w' := by
 have H : (if a0 = true then (some a1) else (some 0)) = some r := h
 clear h
 by_cases c3 : a0 = true
 ·
  subst c3
  have H1 : (some a1) = some r := by rw [if_pos rfl] at H; exact H
  clear H
  have H := H1
  clear H1
  obtain rfl := Option.some.inj H
  go_enter Tryd.func55, Tryd.ntmps55
  go_wp2
  go_ret
  exact ⟨by first | rfl | (simp; done) | (simp [*]; done), by repeat (first | exact Drawn0.refl _ | apply Drawn0.step)⟩
 ·
  replace c3 := Bool.eq_false_iff.mpr c3
  subst c3
  have H1 : (some 0) = some r := by rw [if_neg (show ¬ (false = true) by decide)] at H; exact H
  clear H
  have H := H1
  clear H1
  obtain rfl := Option.some.inj H
  go_enter Tryd.func55, Tryd.ntmps55
  go_wp2
  go_ret
  exact ⟨by first | rfl | (simp; done) | (simp [*]; done), by repeat (first | exact Drawn0.refl _ | apply Drawn0.step)⟩


/-! ### slices_Index_string_string: function 167 -/
def slices_Index_string_string.l0 : Nat → List ByteArray → ByteArray → Int → Int → Option (Int)
 | 0, _, _, _, _ => none
 | k + 1, x0, x1, x7, x8 => if x8 < x7 then (if 0 ≤ x8 then (if x8 < (x0.length : Int) then (if x1.toList = (rdOf ByteArray.empty x0 x8).toList then (some x8) else (slices_Index_string_string.l0 k x0 x1 x7 (wrap64 (x8 + 1)))) else (none)) else (none)) else (some (-1))
def slices_Index_string_string.f (k : Nat) (l0 : List ByteArray) (a1 : ByteArray) : Option (Int) := slices_Index_string_string.l0 k l0 a1 (l0.length : Int) 0
theorem slices_Index_string_string.mono_l : ∀ k, (∀ y0 y1 y2 y3, LeO (slices_Index_string_string.l0 k y0 y1 y2 y3) (slices_Index_string_string.l0 (k + 1) y0 y1 y2 y3))
 | 0 => fun _ _ _ _ r h => by simp [slices_Index_string_string.l0] at h
 | k + 1 => by
  have ih0 := slices_Index_string_string.mono_l k
  ·
   intro y0 y1 y2 y3
   unfold slices_Index_string_string.l0
   repeat' first
   | (with_reducible exact ih0 _ _ _ _)
   | (with_reducible exact LeO.refl _)
   | (with_reducible exact LeO.none _)
   | (with_reducible refine LeO.ite ?_ ?_)
   | (with_reducible refine LeO.bind ?_ (fun _ => ?_))
   | exact ih0 _ _ _ _
   | exact LeO.none _
   | refine LeO.ite ?_ ?_
   | refine LeO.bind ?_ (fun _ => ?_)
theorem slices_Index_string_string.mono : ∀ a0 a1 k, LeO (slices_Index_string_string.f k a0 a1) (slices_Index_string_string.f (k + 1) a0 a1) := by
 intro a0 a1 k
 have ih0 := slices_Index_string_string.mono_l k
 unfold slices_Index_string_string.f
 repeat' first
   | (with_reducible exact ih0 _ _ _ _)
   | (with_reducible exact LeO.refl _)
   | (with_reducible exact LeO.none _)
   | (with_reducible refine LeO.ite ?_ ?_)
   | (with_reducible refine LeO.bind ?_ (fun _ => ?_))
   | exact ih0 _ _ _ _
   | exact LeO.none _
   | refine LeO.ite ?_ ?_
   | refine LeO.bind ?_ (fun _ => ?_)
set_option maxHeartbeats 8000000 in
set_option maxRecDepth 100000 in
theorem slices_Index_string_string.calls (k : Nat) (A0 : Option Addr) (c0 : Nat) (l0 : List ByteArray) (a1 : ByteArray) (r : Int) (w : World) (hr0 : Kd.C Kd.string w A0 l0.length l0) (hc0 : l0.length ≤ c0) (h : slices_Index_string_string.f k l0 a1 = some r) :
  Calls Tryd.prog 167 #[.slice A0 l0.length c0, .string a1] w fun e w' => e = .returned (.int .i64 r) ∧ Drawn0 w w' := by
 have HR0 := zK hr0
 have HC0 := zK hc0
 clear hr0 hc0
 have H : (slices_Index_string_string.l0 k l0 a1 (l0.length : Int) 0) = some r := h
 clear h
 have H' := zK H
 clear H
 go_enter Tryd.func167, Tryd.ntmps167
 go_wp2
 go_loopg [8] k (fun kq v8 w' => ∃ (x8_1 : Int), v8 = .int .i64 x8_1 ∧ Aside0 (slices_Index_string_string.l0 kq l0 a1 (l0.length : Int) x8_1 = some r) ∧ Aside0 (kq ≤ k) ∧ Drawn0 w w')
 case atStart => exact ⟨(0), (by first | rfl | (simp; done) | (simp [*]; done)), H', ⟨Nat.le_refl _⟩, by repeat (first | exact Drawn0.refl _ | apply Drawn0.step)⟩
 case round =>
  clear H'
  try clear c1
  try clear p2
  obtain ⟨x8_1, rfl, HA, HK1, ⟨m1, rfl⟩⟩ := hrel
  cases gk with
  | zero => exact absurd HA.out (by simp [slices_Index_string_string.l0])
  | succ k1 =>
   have H := HA.out
   clear HA
   simp only [slices_Index_string_string.l0] at H
   by_cases c3 : x8_1 < (l0.length : Int)
   ·
    rw [if_pos c3] at H
    have c3b0 : decide (x8_1 < (l0.length : Int)) = true := decide_eq_true c3
    clear c3
    by_cases c4 : 0 ≤ x8_1
    ·
     rw [if_pos c4] at H
     have c4b0 : decide (0 ≤ x8_1) = true := decide_eq_true c4
     clear c4
     by_cases c5 : x8_1 < (l0.length : Int)
     ·
      rw [if_pos c5] at H
      have c5b0 : decide (x8_1 < (l0.length : Int)) = true := decide_eq_true c5
      clear c5
      by_cases c6 : a1.toList = (rdOf ByteArray.empty l0 x8_1).toList
      ·
       rw [if_pos c6] at H
       have c6b0 : (a1.toList == (rdOf ByteArray.empty l0 x8_1).toList) = true := beq_iff_eq.mpr c6
       have c6b1 : (a1.toList != (rdOf ByteArray.empty l0 x8_1).toList) = false := bne_eq_false_iff_eq.mpr c6
       clear c6
       obtain rfl := Option.some.inj H
       have p683 : 0 ≤ (x8_1 : Int) := zX (by first | (with_reducible assumption) | assumption)
       have q683 : x8_1 < (l0.length : Int) := zX (by first | (with_reducible assumption) | assumption)
       obtain ⟨ad683, e683, hx683_0⟩ := Kd.at_string HR0.out x8_1 p683 q683
       cases e683
       replace p683 := eq_true p683
       replace q683 := eq_true q683
       go_wp2
       go_ret
       exact ⟨by first | rfl | (simp; done) | (simp [*]; done), by repeat (first | exact Drawn0.refl _ | apply Drawn0.step)⟩
      ·
       rw [if_neg c6] at H
       have c6b0 : (a1.toList == (rdOf ByteArray.empty l0 x8_1).toList) = false := beq_eq_false_iff_ne.mpr c6
       have c6b1 : (a1.toList != (rdOf ByteArray.empty l0 x8_1).toList) = true := bne_iff_ne.mpr c6
       have H' := zK H
       clear H
       have p683 : 0 ≤ (x8_1 : Int) := zX (by first | (with_reducible assumption) | assumption)
       have q683 : x8_1 < (l0.length : Int) := zX (by first | (with_reducible assumption) | assumption)
       obtain ⟨ad683, e683, hx683_0⟩ := Kd.at_string HR0.out x8_1 p683 q683
       cases e683
       replace p683 := eq_true p683
       replace q683 := eq_true q683
       go_wp2
       go_roundg k1
       case measure => have := HK1.out; omega
       case rel => exact ⟨(wrap64 (x8_1 + 1)), (by first | rfl | (simp; done) | (simp [*]; done)), H', ⟨by have := HK1.out; omega⟩, by repeat (first | exact Drawn0.refl _ | apply Drawn0.step)⟩
     ·
      rw [if_neg c5] at H
      exact absurd H (by simp)
    ·
     rw [if_neg c4] at H
     exact absurd H (by simp)
   ·
    rw [if_neg c3] at H
    have c3b0 : decide (x8_1 < (l0.length : Int)) = false := decide_eq_false c3
    clear c3
    obtain rfl := Option.some.inj H
    go_wp2
    go_ret
    exact ⟨by first | rfl | (simp; done) | (simp [*]; done), by repeat (first | exact Drawn0.refl _ | apply Drawn0.step)⟩


/-! ### slices_Contains_string_string: function 139 -/
def slices_Contains_string_string.f (k : Nat) (l0 : List ByteArray) (a1 : ByteArray) : Option (Bool) := (slices_Index_string_string.f k l0 a1).bind fun t684 => (some (decide (t684 ≥ 0)))
theorem slices_Contains_string_string.mono : ∀ a0 a1 k, LeO (slices_Contains_string_string.f k a0 a1) (slices_Contains_string_string.f (k + 1) a0 a1) := by
 intro a0 a1 k
 unfold slices_Contains_string_string.f
 repeat' first
   | (with_reducible exact slices_Index_string_string.mono _ _ _)
   | (with_reducible exact LeO.refl _)
   | (with_reducible exact LeO.none _)
   | (with_reducible refine LeO.ite ?_ ?_)
   | (with_reducible refine LeO.bind ?_ (fun _ => ?_))
   | exact slices_Index_string_string.mono _ _ _
   | exact LeO.none _
   | refine LeO.ite ?_ ?_
   | refine LeO.bind ?_ (fun _ => ?_)
set_option maxHeartbeats 8000000 in
set_option maxRecDepth 100000 in
theorem slices_Contains_string_string.calls (k : Nat) (A0 : Option Addr) (c0 : Nat) (l0 : List ByteArray) (a1 : ByteArray) (r : Bool) (w : World) (hr0 : Kd.C Kd.string w A0 l0.length l0) (hc0 : l0.length ≤ c0) (h : slices_Contains_string_string.f k l0 a1 = some r) :
  Calls Tryd.prog 139 #[.slice A0 l0.length c0, .string a1] w fun e w' => e = .returned (.bool r) ∧ Drawn0 w w' := by
 have HR0 := zK hr0
 have HC0 := zK hc0
 clear hr0 hc0
 have H : ((slices_Index_string_string.f k l0 a1).bind fun t684 => (some (decide (t684 ≥ 0)))) = some r := h
 clear h
 replace H := Option.bind_eq_some_iff.mp H
 obtain ⟨t684, A30, H⟩ := H
 replace H : (some (decide (t684 ≥ 0))) = some r := H
 have A3 := zK A30
 clear A30
 obtain rfl := Option.some.inj H
 go_enter Tryd.func139, Tryd.ntmps139
 go_wp2_with (first | ((with_reducible refine gate_callee (f := 167) rfl ?_); refine goesL_ (some 7) rfl rfl Tryd.func167 (by kernel_rfl) rfl #[.slice A0 l0.length c0, .string a1] rfl (by (try simp only [List.map_toArray, List.map_cons, List.map_nil]); first | done | rfl | (simp only [List.length_drop, List.length_take]; rfl)) ?_; (with_reducible refine (slices_Index_string_string.calls k _ _ l0 a1 t684 _ ?side1 ?side2 A3.out).mono ?_); (case side1 => repeat (first | exact HR0.out | (with_reducible refine Kd.C_alloc ?_ _) | (with_reducible refine Kd.C_drewN ?_ _) | (with_reducible refine Kd.C_drew ?_))); (case side2 => exact HC0.out); rintro e w' ⟨rfl, ⟨nd, rfl⟩⟩; refine ⟨_, rfl, ?_⟩))
 go_ret
 exact ⟨by first | rfl | (simp; done) | (simp [*]; done), by repeat (first | exact Drawn0.refl _ | apply Drawn0.step)⟩
theorem slices_Contains_string_string.callsN (k : Nat) (A0 : Option Addr) (c0 : Nat) (l0 : List ByteArray) (a1 : ByteArray) (r : Bool) (w : World) (hr0 : Kd.C Kd.string w A0 l0.length l0) (hc0 : l0.length ≤ c0) {n : Nat} (h : slices_Contains_string_string.f k l0 a1 = some r) (hn : l0.length = n := by first | rfl | (simp only [List.length_take, List.length_drop]; simp only [decide_eq_true_eq, decide_eq_false_iff_not, eq_iff_iff, iff_true] at *; omega)) :
  Calls Tryd.prog 139 #[.slice A0 n c0, .string a1] w fun e w' => e = .returned (.bool r) ∧ Drawn0 w w' := by
 subst hn
 exact slices_Contains_string_string.calls k A0 c0 l0 a1 r w hr0 hc0 h


/-! ### laws_eqEntriesResult: function 42 -/
def laws_eqEntriesResult.f (k : Nat) (a0_0 : Int) (a0_1 : Int) (l0_2 : List (S80)) (a1_0 : Int) (a1_1 : Int) (l1_2 : List (S80)) : Option (Bool) := if a0_0 = a1_0 then (if a0_1 = a1_1 then ((laws_eqEntryS.f k l0_2 l1_2).bind fun t732 => (if t732 = true then (some true) else (some false))) else (some false)) else (some false)
theorem laws_eqEntriesResult.mono : ∀ a0 a1 a2 a3 a4 a5 k, LeO (laws_eqEntriesResult.f k a0 a1 a2 a3 a4 a5) (laws_eqEntriesResult.f (k + 1) a0 a1 a2 a3 a4 a5) := by
 intro a0 a1 a2 a3 a4 a5 k
 unfold laws_eqEntriesResult.f
 repeat' first
   | (with_reducible exact laws_eqEntryS.mono _ _ _)
   | (with_reducible exact LeO.refl _)
   | (with_reducible exact LeO.none _)
   | (with_reducible refine LeO.ite ?_ ?_)
   | (with_reducible refine LeO.bind ?_ (fun _ => ?_))
   | exact laws_eqEntryS.mono _ _ _
   | exact LeO.none _
   | refine LeO.ite ?_ ?_
   | refine LeO.bind ?_ (fun _ => ?_)
set_option maxHeartbeats 8000000 in
set_option maxRecDepth 100000 in
theorem laws_eqEntriesResult.calls (k : Nat) (a0_0 : Int) (a0_1 : Int) (A0_2 : Option Addr) (c0_2 : Nat) (l0_2 : List (S80)) (a1_0 : Int) (a1_1 : Int) (A1_2 : Option Addr) (c1_2 : Nat) (l1_2 : List (S80)) (r : Bool) (w : World) (hr0_2 : Kd.C k80 w A0_2 l0_2.length l0_2) (hc0_2 : l0_2.length ≤ c0_2) (hr1_2 : Kd.C k80 w A1_2 l1_2.length l1_2) (hc1_2 : l1_2.length ≤ c1_2) (h : laws_eqEntriesResult.f k a0_0 a0_1 l0_2 a1_0 a1_1 l1_2 = some r) :
  Calls Tryd.prog 42 #[.agg #[.int .i64 a0_0, .int .i64 a0_1, .slice A0_2 l0_2.length c0_2], .agg #[.int .i64 a1_0, .int .i64 a1_1, .slice A1_2 l1_2.length c1_2]] w fun e w' => e = .returned (.bool r) ∧ Below w.heap.size w w' := by
 have hu65 := Tryd.underlying65
 have HR0_2 := zK hr0_2
 have HC0_2 := zK hc0_2
 clear hr0_2 hc0_2
 have HR1_2 := zK hr1_2
 have HC1_2 := zK hc1_2
 clear hr1_2 hc1_2
 have HB := zK (Below.refl w.heap.size w)
 have H : (if a0_0 = a1_0 then (if a0_1 = a1_1 then ((laws_eqEntryS.f k l0_2 l1_2).bind fun t732 => (if t732 = true then (some true) else (some false))) else (some false)) else (some false)) = some r := h
 clear h
 by_cases c3 : a0_0 = a1_0
 ·
  rw [if_pos c3] at H
  have c3b0 : (a0_0 == a1_0) = true := beq_iff_eq.mpr c3
  have c3b1 : (a0_0 != a1_0) = false := bne_eq_false_iff_eq.mpr c3
  clear c3
  by_cases c4 : a0_1 = a1_1
  ·
   rw [if_pos c4] at H
   have c4b0 : (a0_1 == a1_1) = true := beq_iff_eq.mpr c4
   have c4b1 : (a0_1 != a1_1) = false := bne_eq_false_iff_eq.mpr c4
   clear c4
   replace H := Option.bind_eq_some_iff.mp H
   obtain ⟨t732, A50, H⟩ := H
   replace H : (if t732 = true then (some true) else (some false)) = some r := H
   have A5 := zK A50
   clear A50
   by_cases c6 : t732 = true
   ·
    subst c6
    have H1 : (some true) = some r := by rw [if_pos rfl] at H; exact H
    clear H
    have H := H1
    clear H1
    obtain rfl := Option.some.inj H
    go_enter Tryd.func42, Tryd.ntmps42
    go_wp2_with (first | ((with_reducible refine gate_dst (N := 2) rfl ?_); refine box_event ?hg (N := 2) ?hd (cs := #[.int .i64 a0_0, .int .i64 a0_1, .slice A0_2 l0_2.length c0_2]) (t := 65) ?hr ?_; (case hd => rfl); (case hg => rfl); (case hr => first | (go_simp; done) | (go_simp; rfl)); intro gb730 hg w7 hbox hb; have n0_ := zK (below_step (by repeat (first | (with_reducible first | exact HB.out | apply zA | apply zN | apply zD) | exact HB.out)) hb); have n1_ := zK (hbox); have n2_ := zK ((by rw [hg]; exact (below_size (by repeat (first | (with_reducible first | exact HB.out | apply zA | apply zN | apply zD) | exact HB.out))) : w.heap.size ≤ gb730)); have n3_ := zK ((by rw [hg]; exact (below_size (by repeat (first | (with_reducible first | exact HB.out | apply zA | apply zN | apply zD) | exact HB.out))) : w.heap.size ≤ gb730)); clear HB; have HB := n0_; have BK730 := n1_; have GW730 := n2_; have GE730 := n3_; clear n0_ n1_ n2_ n3_; clear hb hbox hg) | ((with_reducible refine gate_dst (N := 3) rfl ?_); refine box_event ?hg (N := 3) ?hd (cs := #[.int .i64 a1_0, .int .i64 a1_1, .slice A1_2 l1_2.length c1_2]) (t := 65) ?hr ?_; (case hd => rfl); (case hg => rfl); (case hr => first | (go_simp; done) | (go_simp; rfl)); intro gb731 hg w8 hbox hb; have n0_ := zK (blk_below (g := gb730) (o := .cells #[.int .i64 a0_0, .int .i64 a0_1, .slice A0_2 l0_2.length c0_2] 65 (0, 0)) (by (with_reducible repeat (first | refine zM ?_ _ | refine zP ?_ | refine zQ ?_ _)); exact BK730.out) hb); have n1_ := zK (below_step (by repeat (first | (with_reducible first | exact HB.out | apply zA | apply zN | apply zD | refine below_set ?_ GE730.out) | exact HB.out)) hb); have n2_ := zK (hbox); have n3_ := zK ((by rw [hg]; exact (below_size (by repeat (first | (with_reducible first | exact HB.out | apply zA | apply zN | apply zD | refine below_set ?_ GE730.out) | exact HB.out))) : w.heap.size ≤ gb731)); have n4_ := zK ((by rw [hg]; exact (below_size (by repeat (first | (with_reducible first | exact HB.out | apply zA | apply zN | apply zD | refine below_set ?_ GE730.out) | exact HB.out))) : w.heap.size ≤ gb731)); have n5_ := zK ((by rw [hg]; exact Nat.ne_of_lt (blk_lt (g := gb730) (o := .cells #[.int .i64 a0_0, .int .i64 a0_1, .slice A0_2 l0_2.length c0_2] 65 (0, 0)) (by (with_reducible repeat (first | refine zM ?_ _ | refine zP ?_ | refine zQ ?_ _)); exact BK730.out)) : gb730 ≠ gb731)); have n6_ := zK ((by rw [hg]; exact Nat.ne_of_gt (blk_lt (g := gb730) (o := .cells #[.int .i64 a0_0, .int .i64 a0_1, .slice A0_2 l0_2.length c0_2] 65 (0, 0)) (by (with_reducible repeat (first | refine zM ?_ _ | refine zP ?_ | refine zQ ?_ _)); exact BK730.out)) : gb731 ≠ gb730)); clear BK730; clear HB; have BK730 := n0_; have HB := n1_; have BK731 := n2_; have GW731 := n3_; have GE731 := n4_; have NB730_731 := n5_; have NB731_730 := n6_; clear n0_ n1_ n2_ n3_ n4_ n5_ n6_; clear hb hbox hg; have hnb9 := NB730_731.out; have hnc9 := NB731_730.out; have hcz10_0 : w8.cell? ⟨gb730, 0, none⟩ = some (.int .i64 a0_0) := (blk_cell BK730.out 0).trans rfl; have hcz10_1 : w8.cell? ⟨gb730, 1, none⟩ = some (.int .i64 a0_1) := (blk_cell BK730.out 1).trans rfl; have hcz10_2 : w8.cell? ⟨gb730, 2, none⟩ = some (.slice A0_2 l0_2.length c0_2) := (blk_cell BK730.out 2).trans rfl; have hfz10_0 := blk_frozen BK730.out 0; have hfz10_1 := blk_frozen BK730.out 1; have hfz10_2 := blk_frozen BK730.out 2; have hcz11_0 : w8.cell? ⟨gb731, 0, none⟩ = some (.int .i64 a1_0) := (blk_cell BK731.out 0).trans rfl; have hcz11_1 : w8.cell? ⟨gb731, 1, none⟩ = some (.int .i64 a1_1) := (blk_cell BK731.out 1).trans rfl; have hcz11_2 : w8.cell? ⟨gb731, 2, none⟩ = some (.slice A1_2 l1_2.length c1_2) := (blk_cell BK731.out 2).trans rfl; have hfz11_0 := blk_frozen BK731.out 0; have hfz11_1 := blk_frozen BK731.out 1; have hfz11_2 := blk_frozen BK731.out 2) | ((with_reducible refine gate_callee (f := 14) rfl ?_); refine goesL_ (some 19) rfl rfl Tryd.func14 (by kernel_rfl) rfl #[.slice A0_2 l0_2.length c0_2, .slice A1_2 l1_2.length c1_2] rfl (by (try simp only [List.map_toArray, List.map_cons, List.map_nil]); first | done | rfl | (simp only [List.length_drop, List.length_take]; rfl)) ?_; (with_reducible refine (laws_eqEntryS.calls k _ _ l0_2 _ _ l1_2 true _ ?side1 ?side2 ?side3 ?side4 A5.out).mono ?_); (case side1 => repeat (first | exact (Kd.C_below HR0_2.out HB.out) | (with_reducible refine Kd.C_alloc ?_ _) | (with_reducible refine Kd.C_drewN ?_ _) | (with_reducible refine Kd.C_drew ?_))); (case side2 => exact HC0_2.out); (case side3 => repeat (first | exact (Kd.C_below HR1_2.out HB.out) | (with_reducible refine Kd.C_alloc ?_ _) | (with_reducible refine Kd.C_drewN ?_ _) | (with_reducible refine Kd.C_drew ?_))); (case side4 => exact HC1_2.out); rintro e w12 ⟨rfl, hb⟩; refine ⟨_, rfl, ?_⟩; have n0_ := zK (blk_below (g := gb730) (o := .cells #[.int .i64 a0_0, .int .i64 a0_1, .slice A0_2 l0_2.length c0_2] 65 (0, 0)) (by (with_reducible repeat (first | refine zM ?_ _ | refine zP ?_ | refine zQ ?_ _)); exact BK730.out) hb); have n1_ := zK (blk_below (g := gb731) (o := .cells #[.int .i64 a1_0, .int .i64 a1_1, .slice A1_2 l1_2.length c1_2] 65 (0, 0)) (by (with_reducible repeat (first | refine zM ?_ _ | refine zP ?_ | refine zQ ?_ _)); exact BK731.out) hb); have n2_ := zK (below_step (by repeat (first | (with_reducible first | exact HB.out | apply zA | apply zN | apply zD | refine below_set ?_ GE730.out | refine below_set ?_ GE731.out) | exact HB.out)) hb); clear BK730; clear BK731; clear HB; have BK730 := n0_; have BK731 := n1_; have HB := n2_; clear n0_ n1_ n2_; (try clear hb); (try clear hb2); (try clear hk); (try clear hi)))
    go_ret
    exact ⟨by first | rfl | (simp [errW_none, errW_some] <;> rfl) | (simp [*, errW_none, errW_some] <;> rfl), by repeat (first | (with_reducible first | exact HB.out | apply zA | apply zN | apply zD | refine below_set ?_ GE730.out | refine below_set ?_ GE731.out) | exact HB.out)⟩
   ·
    replace c6 := Bool.eq_false_iff.mpr c6
    subst c6
    have H1 : (some false) = some r := by rw [if_neg (show ¬ (false = true) by decide)] at H; exact H
    clear H
    have H := H1
    clear H1
    obtain rfl := Option.some.inj H
    go_enter Tryd.func42, Tryd.ntmps42
    go_wp2_with (first | ((with_reducible refine gate_dst (N := 2) rfl ?_); refine box_event ?hg (N := 2) ?hd (cs := #[.int .i64 a0_0, .int .i64 a0_1, .slice A0_2 l0_2.length c0_2]) (t := 65) ?hr ?_; (case hd => rfl); (case hg => rfl); (case hr => first | (go_simp; done) | (go_simp; rfl)); intro gb730 hg w13 hbox hb; have n0_ := zK (below_step (by repeat (first | (with_reducible first | exact HB.out | apply zA | apply zN | apply zD) | exact HB.out)) hb); have n1_ := zK (hbox); have n2_ := zK ((by rw [hg]; exact (below_size (by repeat (first | (with_reducible first | exact HB.out | apply zA | apply zN | apply zD) | exact HB.out))) : w.heap.size ≤ gb730)); have n3_ := zK ((by rw [hg]; exact (below_size (by repeat (first | (with_reducible first | exact HB.out | apply zA | apply zN | apply zD) | exact HB.out))) : w.heap.size ≤ gb730)); clear HB; have HB := n0_; have BK730 := n1_; have GW730 := n2_; have GE730 := n3_; clear n0_ n1_ n2_ n3_; clear hb hbox hg) | ((with_reducible refine gate_dst (N := 3) rfl ?_); refine box_event ?hg (N := 3) ?hd (cs := #[.int .i64 a1_0, .int .i64 a1_1, .slice A1_2 l1_2.length c1_2]) (t := 65) ?hr ?_; (case hd => rfl); (case hg => rfl); (case hr => first | (go_simp; done) | (go_simp; rfl)); intro gb731 hg w14 hbox hb; have n0_ := zK (blk_below (g := gb730) (o := .cells #[.int .i64 a0_0, .int .i64 a0_1, .slice A0_2 l0_2.length c0_2] 65 (0, 0)) (by (with_reducible repeat (first | refine zM ?_ _ | refine zP ?_ | refine zQ ?_ _)); exact BK730.out) hb); have n1_ := zK (below_step (by repeat (first | (with_reducible first | exact HB.out | apply zA | apply zN | apply zD | refine below_set ?_ GE730.out) | exact HB.out)) hb); have n2_ := zK (hbox); have n3_ := zK ((by rw [hg]; exact (below_size (by repeat (first | (with_reducible first | exact HB.out | apply zA | apply zN | apply zD | refine below_set ?_ GE730.out) | exact HB.out))) : w.heap.size ≤ gb731)); have n4_ := zK ((by rw [hg]; exact (below_size (by repeat (first | (with_reducible first | exact HB.out | apply zA | apply zN | apply zD | refine below_set ?_ GE730.out) | exact HB.out))) : w.heap.size ≤ gb731)); have n5_ := zK ((by rw [hg]; exact Nat.ne_of_lt (blk_lt (g := gb730) (o := .cells #[.int .i64 a0_0, .int .i64 a0_1, .slice A0_2 l0_2.length c0_2] 65 (0, 0)) (by (with_reducible repeat (first | refine zM ?_ _ | refine zP ?_ | refine zQ ?_ _)); exact BK730.out)) : gb730 ≠ gb731)); have n6_ := zK ((by rw [hg]; exact Nat.ne_of_gt (blk_lt (g := gb730) (o := .cells #[.int .i64 a0_0, .int .i64 a0_1, .slice A0_2 l0_2.length c0_2] 65 (0, 0)) (by (with_reducible repeat (first | refine zM ?_ _ | refine zP ?_ | refine zQ ?_ _)); exact BK730.out)) : gb731 ≠ gb730)); clear BK730; clear HB; have BK730 := n0_; have HB := n1_; have BK731 := n2_; have GW731 := n3_; have GE731 := n4_; have NB730_731 := n5_; have NB731_730 := n6_; clear n0_ n1_ n2_ n3_ n4_ n5_ n6_; clear hb hbox hg; have hnb15 := NB730_731.out; have hnc15 := NB731_730.out; have hcz16_0 : w14.cell? ⟨gb730, 0, none⟩ = some (.int .i64 a0_0) := (blk_cell BK730.out 0).trans rfl; have hcz16_1 : w14.cell? ⟨gb730, 1, none⟩ = some (.int .i64 a0_1) := (blk_cell BK730.out 1).trans rfl; have hcz16_2 : w14.cell? ⟨gb730, 2, none⟩ = some (.slice A0_2 l0_2.length c0_2) := (blk_cell BK730.out 2).trans rfl; have hfz16_0 := blk_frozen BK730.out 0; have hfz16_1 := blk_frozen BK730.out 1; have hfz16_2 := blk_frozen BK730.out 2; have hcz17_0 : w14.cell? ⟨gb731, 0, none⟩ = some (.int .i64 a1_0) := (blk_cell BK731.out 0).trans rfl; have hcz17_1 : w14.cell? ⟨gb731, 1, none⟩ = some (.int .i64 a1_1) := (blk_cell BK731.out 1).trans rfl; have hcz17_2 : w14.cell? ⟨gb731, 2, none⟩ = some (.slice A1_2 l1_2.length c1_2) := (blk_cell BK731.out 2).trans rfl; have hfz17_0 := blk_frozen BK731.out 0; have hfz17_1 := blk_frozen BK731.out 1; have hfz17_2 := blk_frozen BK731.out 2) | ((with_reducible refine gate_callee (f := 14) rfl ?_); refine goesL_ (some 19) rfl rfl Tryd.func14 (by kernel_rfl) rfl #[.slice A0_2 l0_2.length c0_2, .slice A1_2 l1_2.length c1_2] rfl (by (try simp only [List.map_toArray, List.map_cons, List.map_nil]); first | done | rfl | (simp only [List.length_drop, List.length_take]; rfl)) ?_; (with_reducible refine (laws_eqEntryS.calls k _ _ l0_2 _ _ l1_2 false _ ?side1 ?side2 ?side3 ?side4 A5.out).mono ?_); (case side1 => repeat (first | exact (Kd.C_below HR0_2.out HB.out) | (with_reducible refine Kd.C_alloc ?_ _) | (with_reducible refine Kd.C_drewN ?_ _) | (with_reducible refine Kd.C_drew ?_))); (case side2 => exact HC0_2.out); (case side3 => repeat (first | exact (Kd.C_below HR1_2.out HB.out) | (with_reducible refine Kd.C_alloc ?_ _) | (with_reducible refine Kd.C_drewN ?_ _) | (with_reducible refine Kd.C_drew ?_))); (case side4 => exact HC1_2.out); rintro e w18 ⟨rfl, hb⟩; refine ⟨_, rfl, ?_⟩; have n0_ := zK (blk_below (g := gb730) (o := .cells #[.int .i64 a0_0, .int .i64 a0_1, .slice A0_2 l0_2.length c0_2] 65 (0, 0)) (by (with_reducible repeat (first | refine zM ?_ _ | refine zP ?_ | refine zQ ?_ _)); exact BK730.out) hb); have n1_ := zK (blk_below (g := gb731) (o := .cells #[.int .i64 a1_0, .int .i64 a1_1, .slice A1_2 l1_2.length c1_2] 65 (0, 0)) (by (with_reducible repeat (first | refine zM ?_ _ | refine zP ?_ | refine zQ ?_ _)); exact BK731.out) hb); have n2_ := zK (below_step (by repeat (first | (with_reducible first | exact HB.out | apply zA | apply zN | apply zD | refine below_set ?_ GE730.out | refine below_set ?_ GE731.out) | exact HB.out)) hb); clear BK730; clear BK731; clear HB; have BK730 := n0_; have BK731 := n1_; have HB := n2_; clear n0_ n1_ n2_; (try clear hb); (try clear hb2); (try clear hk); (try clear hi)))
    go_ret
    exact ⟨by first | rfl | (simp [errW_none, errW_some] <;> rfl) | (simp [*, errW_none, errW_some] <;> rfl), by repeat (first | (with_reducible first | exact HB.out | apply zA | apply zN | apply zD | refine below_set ?_ GE730.out | refine below_set ?_ GE731.out) | exact HB.out)⟩
  ·
   rw [if_neg c4] at H
   have c4b0 : (a0_1 == a1_1) = false := beq_eq_false_iff_ne.mpr c4
   have c4b1 : (a0_1 != a1_1) = true := bne_iff_ne.mpr c4
   obtain rfl := Option.some.inj H
   go_enter Tryd.func42, Tryd.ntmps42
   go_wp2_with (first | ((with_reducible refine gate_dst (N := 2) rfl ?_); refine box_event ?hg (N := 2) ?hd (cs := #[.int .i64 a0_0, .int .i64 a0_1, .slice A0_2 l0_2.length c0_2]) (t := 65) ?hr ?_; (case hd => rfl); (case hg => rfl); (case hr => first | (go_simp; done) | (go_simp; rfl)); intro gb730 hg w19 hbox hb; have n0_ := zK (below_step (by repeat (first | (with_reducible first | exact HB.out | apply zA | apply zN | apply zD) | exact HB.out)) hb); have n1_ := zK (hbox); have n2_ := zK ((by rw [hg]; exact (below_size (by repeat (first | (with_reducible first | exact HB.out | apply zA | apply zN | apply zD) | exact HB.out))) : w.heap.size ≤ gb730)); have n3_ := zK ((by rw [hg]; exact (below_size (by repeat (first | (with_reducible first | exact HB.out | apply zA | apply zN | apply zD) | exact HB.out))) : w.heap.size ≤ gb730)); clear HB; have HB := n0_; have BK730 := n1_; have GW730 := n2_; have GE730 := n3_; clear n0_ n1_ n2_ n3_; clear hb hbox hg) | ((with_reducible refine gate_dst (N := 3) rfl ?_); refine box_event ?hg (N := 3) ?hd (cs := #[.int .i64 a1_0, .int .i64 a1_1, .slice A1_2 l1_2.length c1_2]) (t := 65) ?hr ?_; (case hd => rfl); (case hg => rfl); (case hr => first | (go_simp; done) | (go_simp; rfl)); intro gb731 hg w20 hbox hb; have n0_ := zK (blk_below (g := gb730) (o := .cells #[.int .i64 a0_0, .int .i64 a0_1, .slice A0_2 l0_2.length c0_2] 65 (0, 0)) (by (with_reducible repeat (first | refine zM ?_ _ | refine zP ?_ | refine zQ ?_ _)); exact BK730.out) hb); have n1_ := zK (below_step (by repeat (first | (with_reducible first | exact HB.out | apply zA | apply zN | apply zD | refine below_set ?_ GE730.out) | exact HB.out)) hb); have n2_ := zK (hbox); have n3_ := zK ((by rw [hg]; exact (below_size (by repeat (first | (with_reducible first | exact HB.out | apply zA | apply zN | apply zD | refine below_set ?_ GE730.out) | exact HB.out))) : w.heap.size ≤ gb731)); have n4_ := zK ((by rw [hg]; exact (below_size (by repeat (first | (with_reducible first | exact HB.out | apply zA | apply zN | apply zD | refine below_set ?_ GE730.out) | exact HB.out))) : w.heap.size ≤ gb731)); have n5_ := zK ((by rw [hg]; exact Nat.ne_of_lt (blk_lt (g := gb730) (o := .cells #[.int .i64 a0_0, .int .i64 a0_1, .slice A0_2 l0_2.length c0_2] 65 (0, 0)) (by (with_reducible repeat (first | refine zM ?_ _ | refine zP ?_ | refine zQ ?_ _)); exact BK730.out)) : gb730 ≠ gb731)); have n6_ := zK ((by rw [hg]; exact Nat.ne_of_gt (blk_lt (g := gb730) (o := .cells #[.int .i64 a0_0, .int .i64 a0_1, .slice A0_2 l0_2.length c0_2] 65 (0, 0)) (by (with_reducible repeat (first | refine zM ?_ _ | refine zP ?_ | refine zQ ?_ _)); exact BK730.out)) : gb731 ≠ gb730)); clear BK730; clear HB; have BK730 := n0_; have HB := n1_; have BK731 := n2_; have GW731 := n3_; have GE731 := n4_; have NB730_731 := n5_; have NB731_730 := n6_; clear n0_ n1_ n2_ n3_ n4_ n5_ n6_; clear hb hbox hg; have hnb21 := NB730_731.out; have hnc21 := NB731_730.out; have hcz22_0 : w20.cell? ⟨gb730, 0, none⟩ = some (.int .i64 a0_0) := (blk_cell BK730.out 0).trans rfl; have hcz22_1 : w20.cell? ⟨gb730, 1, none⟩ = some (.int .i64 a0_1) := (blk_cell BK730.out 1).trans rfl; have hcz22_2 : w20.cell? ⟨gb730, 2, none⟩ = some (.slice A0_2 l0_2.length c0_2) := (blk_cell BK730.out 2).trans rfl; have hfz22_0 := blk_frozen BK730.out 0; have hfz22_1 := blk_frozen BK730.out 1; have hfz22_2 := blk_frozen BK730.out 2; have hcz23_0 : w20.cell? ⟨gb731, 0, none⟩ = some (.int .i64 a1_0) := (blk_cell BK731.out 0).trans rfl; have hcz23_1 : w20.cell? ⟨gb731, 1, none⟩ = some (.int .i64 a1_1) := (blk_cell BK731.out 1).trans rfl; have hcz23_2 : w20.cell? ⟨gb731, 2, none⟩ = some (.slice A1_2 l1_2.length c1_2) := (blk_cell BK731.out 2).trans rfl; have hfz23_0 := blk_frozen BK731.out 0; have hfz23_1 := blk_frozen BK731.out 1; have hfz23_2 := blk_frozen BK731.out 2))
   go_ret
   exact ⟨by first | rfl | (simp [errW_none, errW_some] <;> rfl) | (simp [*, errW_none, errW_some] <;> rfl), by repeat (first | (with_reducible first | exact HB.out | apply zA | apply zN | apply zD | refine below_set ?_ GE730.out | refine below_set ?_ GE731.out) | exact HB.out)⟩
 ·
  rw [if_neg c3] at H
  have c3b0 : (a0_0 == a1_0) = false := beq_eq_false_iff_ne.mpr c3
  have c3b1 : (a0_0 != a1_0) = true := bne_iff_ne.mpr c3
  obtain rfl := Option.some.inj H
  go_enter Tryd.func42, Tryd.ntmps42
  go_wp2_with (first | ((with_reducible refine gate_dst (N := 2) rfl ?_); refine box_event ?hg (N := 2) ?hd (cs := #[.int .i64 a0_0, .int .i64 a0_1, .slice A0_2 l0_2.length c0_2]) (t := 65) ?hr ?_; (case hd => rfl); (case hg => rfl); (case hr => first | (go_simp; done) | (go_simp; rfl)); intro gb730 hg w24 hbox hb; have n0_ := zK (below_step (by repeat (first | (with_reducible first | exact HB.out | apply zA | apply zN | apply zD) | exact HB.out)) hb); have n1_ := zK (hbox); have n2_ := zK ((by rw [hg]; exact (below_size (by repeat (first | (with_reducible first | exact HB.out | apply zA | apply zN | apply zD) | exact HB.out))) : w.heap.size ≤ gb730)); have n3_ := zK ((by rw [hg]; exact (below_size (by repeat (first | (with_reducible first | exact HB.out | apply zA | apply zN | apply zD) | exact HB.out))) : w.heap.size ≤ gb730)); clear HB; have HB := n0_; have BK730 := n1_; have GW730 := n2_; have GE730 := n3_; clear n0_ n1_ n2_ n3_; clear hb hbox hg) | ((with_reducible refine gate_dst (N := 3) rfl ?_); refine box_event ?hg (N := 3) ?hd (cs := #[.int .i64 a1_0, .int .i64 a1_1, .slice A1_2 l1_2.length c1_2]) (t := 65) ?hr ?_; (case hd => rfl); (case hg => rfl); (case hr => first | (go_simp; done) | (go_simp; rfl)); intro gb731 hg w25 hbox hb; have n0_ := zK (blk_below (g := gb730) (o := .cells #[.int .i64 a0_0, .int .i64 a0_1, .slice A0_2 l0_2.length c0_2] 65 (0, 0)) (by (with_reducible repeat (first | refine zM ?_ _ | refine zP ?_ | refine zQ ?_ _)); exact BK730.out) hb); have n1_ := zK (below_step (by repeat (first | (with_reducible first | exact HB.out | apply zA | apply zN | apply zD | refine below_set ?_ GE730.out) | exact HB.out)) hb); have n2_ := zK (hbox); have n3_ := zK ((by rw [hg]; exact (below_size (by repeat (first | (with_reducible first | exact HB.out | apply zA | apply zN | apply zD | refine below_set ?_ GE730.out) | exact HB.out))) : w.heap.size ≤ gb731)); have n4_ := zK ((by rw [hg]; exact (below_size (by repeat (first | (with_reducible first | exact HB.out | apply zA | apply zN | apply zD | refine below_set ?_ GE730.out) | exact HB.out))) : w.heap.size ≤ gb731)); have n5_ := zK ((by rw [hg]; exact Nat.ne_of_lt (blk_lt (g := gb730) (o := .cells #[.int .i64 a0_0, .int .i64 a0_1, .slice A0_2 l0_2.length c0_2] 65 (0, 0)) (by (with_reducible repeat (first | refine zM ?_ _ | refine zP ?_ | refine zQ ?_ _)); exact BK730.out)) : gb730 ≠ gb731)); have n6_ := zK ((by rw [hg]; exact Nat.ne_of_gt (blk_lt (g := gb730) (o := .cells #[.int .i64 a0_0, .int .i64 a0_1, .slice A0_2 l0_2.length c0_2] 65 (0, 0)) (by (with_reducible repeat (first | refine zM ?_ _ | refine zP ?_ | refine zQ ?_ _)); exact BK730.out)) : gb731 ≠ gb730)); clear BK730; clear HB; have BK730 := n0_; have HB := n1_; have BK731 := n2_; have GW731 := n3_; have GE731 := n4_; have NB730_731 := n5_; have NB731_730 := n6_; clear n0_ n1_ n2_ n3_ n4_ n5_ n6_; clear hb hbox hg; have hnb26 := NB730_731.out; have hnc26 := NB731_730.out; have hcz27_0 : w25.cell? ⟨gb730, 0, none⟩ = some (.int .i64 a0_0) := (blk_cell BK730.out 0).trans rfl; have hcz27_1 : w25.cell? ⟨gb730, 1, none⟩ = some (.int .i64 a0_1) := (blk_cell BK730.out 1).trans rfl; have hcz27_2 : w25.cell? ⟨gb730, 2, none⟩ = some (.slice A0_2 l0_2.length c0_2) := (blk_cell BK730.out 2).trans rfl; have hfz27_0 := blk_frozen BK730.out 0; have hfz27_1 := blk_frozen BK730.out 1; have hfz27_2 := blk_frozen BK730.out 2; have hcz28_0 : w25.cell? ⟨gb731, 0, none⟩ = some (.int .i64 a1_0) := (blk_cell BK731.out 0).trans rfl; have hcz28_1 : w25.cell? ⟨gb731, 1, none⟩ = some (.int .i64 a1_1) := (blk_cell BK731.out 1).trans rfl; have hcz28_2 : w25.cell? ⟨gb731, 2, none⟩ = some (.slice A1_2 l1_2.length c1_2) := (blk_cell BK731.out 2).trans rfl; have hfz28_0 := blk_frozen BK731.out 0; have hfz28_1 := blk_frozen BK731.out 1; have hfz28_2 := blk_frozen BK731.out 2))
  go_ret
  exact ⟨by first | rfl | (simp [errW_none, errW_some] <;> rfl) | (simp [*, errW_none, errW_some] <;> rfl), by repeat (first | (with_reducible first | exact HB.out | apply zA | apply zN | apply zD | refine below_set ?_ GE730.out | refine below_set ?_ GE731.out) | exact HB.out)⟩


/-! ### laws_markEntriesResult: function 43 -/
def laws_markEntriesResult.f (k : Nat) (a0_0 : Int) (a0_1 : Int) (l0_2 : List (S80)) (a1 : Int) : Option (Int × (List (S80))) := (laws_markEntryS.f k l0_2 a1).bind fun bt734 => (some (bt734.1, bt734.2))
theorem laws_markEntriesResult.mono : ∀ a0 a1 a2 a3 k, LeO (laws_markEntriesResult.f k a0 a1 a2 a3) (laws_markEntriesResult.f (k + 1) a0 a1 a2 a3) := by
 intro a0 a1 a2 a3 k
 unfold laws_markEntriesResult.f
 repeat' first
   | (with_reducible exact laws_markEntryS.mono _ _ _)
   | (with_reducible exact LeO.refl _)
   | (with_reducible exact LeO.none _)
   | (with_reducible refine LeO.ite ?_ ?_)
   | (with_reducible refine LeO.bind ?_ (fun _ => ?_))
   | exact laws_markEntryS.mono _ _ _
   | exact LeO.none _
   | refine LeO.ite ?_ ?_
   | refine LeO.bind ?_ (fun _ => ?_)
set_option maxHeartbeats 8000000 in
set_option maxRecDepth 100000 in
theorem laws_markEntriesResult.calls (k : Nat) (a0_0 : Int) (a0_1 : Int) (P0_2_ : Nat → Prop) (u9000_ : Value) (l0_2 : List (S80)) (a1 : Int) (r1 : Int) (r2 : List (S80)) (w0 w : World) (hB : Below w0.heap.size w0 w) (ho0_2 : Kd.R k80 80 w w0.heap.size P0_2_ u9000_ l0_2) (h : laws_markEntriesResult.f k a0_0 a0_1 l0_2 a1 = some (r1, r2)) :
  Calls Tryd.prog 43 #[.agg #[.int .i64 a0_0, .int .i64 a0_1, u9000_], .int .i64 a1] w fun e w' => e = .returned (.int .i64 r1) ∧ Kd.R k80 80 w' w0.heap.size (fun k_ => (P0_2_ k_ ∨ w.heap.size ≤ k_)) u9000_ r2 ∧ Below w0.heap.size w0 w' ∧ Kept w w' (fun k_ => P0_2_ k_) := by
 have hu65 := Tryd.underlying65
 have HO0_2 := zK (show Kd.R k80 80 w w0.heap.size (fun k_ => (P0_2_ k_ ∨ w.heap.size ≤ k_)) u9000_ l0_2 from Kd.R_mono ho0_2 (fun k_ hk => (.inl hk)))
 have HK := zK (Kept.refl w (fun k_ => P0_2_ k_))
 have HW0 := zK hB.size
 have HB := zK hB
 clear hB
 have H : ((laws_markEntryS.f k l0_2 a1).bind fun bt734 => (some (bt734.1, bt734.2))) = some (r1, r2) := h
 clear h
 replace H := Option.bind_eq_some_iff.mp H
 obtain ⟨⟨t734, t735⟩, A30, H⟩ := H
 replace H : (some (t734, t735)) = some (r1, r2) := H
 have A3 := zK A30
 clear A30
 simp only [Option.some.injEq, Prod.mk.injEq] at H
 obtain ⟨rfl, rfl⟩ := H
 obtain ⟨Ao4, co4, eo4⟩ := Kd.R_slice HO0_2.out
 subst eo4
 go_enter Tryd.func43, Tryd.ntmps43
 go_wp2_with (first | ((with_reducible refine gate_dst (N := 2) rfl ?_); refine box_event ?hg (N := 2) ?hd (cs := #[.int .i64 a0_0, .int .i64 a0_1, .slice Ao4 l0_2.length co4]) (t := 65) ?hr ?_; (case hd => rfl); (case hg => rfl); (case hr => first | (go_simp; done) | (go_simp; rfl)); intro gb733 hg w5 hbox hb; have n0_ := zK (Kd.R_below (by (with_reducible repeat (first | apply zR | apply zV | apply zW)); exact HO0_2.out) hb); have n1_ := zK (Kept.below (S := (fun k_ => P0_2_ k_)) (by repeat (first | (with_reducible first | exact HK.out | apply Kept.alloc | apply Kept.drewN | apply Kept.drew) | exact HK.out)) hb); have n2_ := zK (below_step (by repeat (first | (with_reducible first | exact HB.out | apply zA | apply zN | apply zD) | exact HB.out)) hb); have n3_ := zK (hbox); have n4_ := zK ((by rw [hg]; exact (by first | exact HK.out.1 | exact (show Kept w _ (fun k_ => P0_2_ k_) from by repeat (first | (with_reducible first | exact HK.out | apply Kept.alloc | apply Kept.drewN | apply Kept.drew) | exact HK.out)).1) : w.heap.size ≤ gb733)); have n5_ := zK ((by rw [hg]; exact (below_size (by repeat (first | (with_reducible first | exact HB.out | apply zA | apply zN | apply zD) | exact HB.out))) : w0.heap.size ≤ gb733)); clear HO0_2; clear HK; clear HB; have HO0_2 := n0_; have HK := n1_; have HB := n2_; have BK733 := n3_; have GW733 := n4_; have GE733 := n5_; clear n0_ n1_ n2_ n3_ n4_ n5_; clear hb hbox hg; have hcz6_0 : w5.cell? ⟨gb733, 0, none⟩ = some (.int .i64 a0_0) := (blk_cell BK733.out 0).trans rfl; have hcz6_1 : w5.cell? ⟨gb733, 1, none⟩ = some (.int .i64 a0_1) := (blk_cell BK733.out 1).trans rfl; have hcz6_2 : w5.cell? ⟨gb733, 2, none⟩ = some (.slice Ao4 l0_2.length co4) := (blk_cell BK733.out 2).trans rfl; have hfz6_0 := blk_frozen BK733.out 0; have hfz6_1 := blk_frozen BK733.out 1; have hfz6_2 := blk_frozen BK733.out 2) | ((with_reducible refine gate_callee (f := 15) rfl ?_); refine goesL_ (some 8) rfl rfl Tryd.func15 (by kernel_rfl) rfl #[.slice Ao4 l0_2.length co4, .int .i64 a1] rfl (by (try simp only [List.map_toArray, List.map_cons, List.map_nil]); first | done | rfl | (simp only [List.length_drop, List.length_take]; rfl)) ?_; (with_reducible refine (laws_markEntryS.calls k (fun k_ => some k_ = (.slice Ao4 l0_2.length co4 : Value).ownBlock) (.slice Ao4 l0_2.length co4) l0_2 a1 t734 t735 w0 _ ?side1 ?side2 A3.out).mono ?_); (case side1 => repeat (first | (with_reducible first | exact HB.out | apply zA | apply zN | apply zD | refine below_set ?_ GE733.out) | exact HB.out)); (case side2 => exact Kd.R_tight rfl HO0_2.out); rintro e w7 ⟨rfl, hy0, hb, hkp⟩; refine ⟨_, rfl, ?_⟩; have n0_ := zK (Kd.R_reok rfl hy0 (fun k_ e_ => HO0_2.out.1 k_ e_)); have n1_ := zK (blk_kept (by (with_reducible repeat (first | refine zM ?_ _ | refine zP ?_ | refine zQ ?_ _)); exact BK733.out) hkp (fun hs_ => (fun e_ => (Kd.R_ne HO0_2.out BK733.out (by decide)) e_) hs_)); have n2_ := zK (Kept.then_ (S := (fun k_ => P0_2_ k_)) (by repeat (first | (with_reducible first | exact HK.out | apply Kept.alloc | apply Kept.drewN | apply Kept.drew | refine Kept.setCell ?_ (.inr GW733.out) _) | exact HK.out)) hkp (fun k_ hs_ => (fun e_ => (HO0_2.out.1 k_ e_.symm)) hs_)); have n3_ := zK (hb); clear HO0_2; clear BK733; clear HK; clear HB; have HO0_2 := n0_; have BK733 := n1_; have HK := n2_; have HB := n3_; clear n0_ n1_ n2_ n3_; (try clear hb); (try clear hkp); (try clear hy0)))
 go_ret
 exact ⟨by first | rfl | (simp [errW_none, errW_some] <;> rfl) | (simp [*, errW_none, errW_some] <;> rfl), by (with_reducible repeat (first | apply zR | apply zV | apply zW)); exact HO0_2.out, by repeat (first | (with_reducible first | exact HB.out | apply zA | apply zN | apply zD | refine below_set ?_ GE733.out) | exact HB.out), by repeat (first | (with_reducible first | exact HK.out | apply Kept.alloc | apply Kept.drewN | apply Kept.drew | refine Kept.setCell ?_ (.inr GW733.out) _) | exact HK.out)⟩


/-! ### laws_heldEntryS: function 94 -/
def laws_heldEntryS.l0 : Nat → List (S80) → Int → Int → Option (Int)
 | 0, _, _, _ => none
 | k + 1, x0, x1, x5 => if x5 < (x0.length : Int) then (if 0 ≤ x5 then ((laws_markText.f k x1).bind fun t737 => (if ((rd_T80 x0 x5).f0).toList = t737.toList then (if ((rd_T80 x0 x5).f1) = (wrap64 (x1 + 1)) then (if ((rd_T80 x0 x5).f2) = (wrap64 ((wrap64 (x1 + 1)) + 1)) then ((laws_markText.f k (wrap64 ((wrap64 ((wrap64 (x1 + 1)) + 1)) + 1))).bind fun t741 => (if ((rd_T80 x0 x5).f3).toList = t741.toList then (laws_heldEntryS.l0 k x0 (wrap64 ((wrap64 ((wrap64 ((wrap64 (x1 + 1)) + 1)) + 1)) + 1)) (wrap64 (x5 + 1))) else (some (-1)))) else (some (-1))) else (some (-1))) else (some (-1)))) else (none)) else (some x1)
def laws_heldEntryS.f (k : Nat) (l0 : List (S80)) (a1 : Int) : Option (Int) := laws_heldEntryS.l0 k l0 a1 0
theorem laws_heldEntryS.mono_l : ∀ k, (∀ y0 y1 y2, LeO (laws_heldEntryS.l0 k y0 y1 y2) (laws_heldEntryS.l0 (k + 1) y0 y1 y2))
 | 0 => fun _ _ _ r h => by simp [laws_heldEntryS.l0] at h
 | k + 1 => by
  have ih0 := laws_heldEntryS.mono_l k
  ·
   intro y0 y1 y2
   unfold laws_heldEntryS.l0
   repeat' first
   | (with_reducible exact ih0 _ _ _)
   | (with_reducible exact laws_markText.mono _ _)
   | (with_reducible exact LeO.refl _)
   | (with_reducible exact LeO.none _)
   | (with_reducible refine LeO.ite ?_ ?_)
   | (with_reducible refine LeO.bind ?_ (fun _ => ?_))
   | exact ih0 _ _ _
   | exact laws_markText.mono _ _
   | exact LeO.none _
   | refine LeO.ite ?_ ?_
   | refine LeO.bind ?_ (fun _ => ?_)
theorem laws_heldEntryS.mono : ∀ a0 a1 k, LeO (laws_heldEntryS.f k a0 a1) (laws_heldEntryS.f (k + 1) a0 a1) := by
 intro a0 a1 k
 have ih0 := laws_heldEntryS.mono_l k
 unfold laws_heldEntryS.f
 repeat' first
   | (with_reducible exact ih0 _ _ _)
   | (with_reducible exact laws_markText.mono _ _)
   | (with_reducible exact LeO.refl _)
   | (with_reducible exact LeO.none _)
   | (with_reducible refine LeO.ite ?_ ?_)
   | (with_reducible refine LeO.bind ?_ (fun _ => ?_))
   | exact ih0 _ _ _
   | exact laws_markText.mono _ _
   | exact LeO.none _
   | refine LeO.ite ?_ ?_
   | refine LeO.bind ?_ (fun _ => ?_)
def laws_heldEntryS.T4 : Bool × List (List Nat × List Nat) := (true, [([], []), ([], []), ([0, 1], [0, 1]), ([2], [2]), ([3], [3]), ([], []), ([5], [5]), ([4, 6], [4, 6])])
def laws_heldEntryS.B4 : List Nat := [0, 0, 3, 7, 15, 0, 32, 127]
theorem laws_heldEntryS.tab4 : rtab .any (opsOf Tryd.f94 4) = laws_heldEntryS.T4 := by kernel_rfl
theorem laws_heldEntryS.bits4 : waitsOk laws_heldEntryS.T4.2 laws_heldEntryS.B4 = true := by kernel_rfl
def laws_heldEntryS.T13 : Bool × List (List Nat × List Nat) := (true, [([], []), ([], []), ([0, 1], [0, 1]), ([2], [2]), ([3], [3]), ([], []), ([5], [5]), ([4, 6], [4, 6])])
def laws_heldEntryS.B13 : List Nat := [0, 0, 3, 7, 15, 0, 32, 127]
theorem laws_heldEntryS.tab13 : rtab .any (opsOf Tryd.f94 13) = laws_heldEntryS.T13 := by kernel_rfl
theorem laws_heldEntryS.bits13 : waitsOk laws_heldEntryS.T13.2 laws_heldEntryS.B13 = true := by kernel_rfl
set_option maxHeartbeats 8000000 in
set_option maxRecDepth 100000 in
theorem laws_heldEntryS.calls (k : Nat) (A0 : Option Addr) (c0 : Nat) (l0 : List (S80)) (a1 : Int) (r : Int) (w : World) (hr0 : Kd.C k80 w A0 l0.length l0) (hc0 : l0.length ≤ c0) (h : laws_heldEntryS.f k l0 a1 = some r) :
  Calls Tryd.prog 94 #[.slice A0 l0.length c0, .int .i64 a1] w fun e w' => e = .returned (.int .i64 r) ∧ Below w.heap.size w w' := by
 have HR0 := zK hr0
 have HC0 := zK hc0
 clear hr0 hc0
 have HB := zK (Below.refl w.heap.size w)
 have H : (laws_heldEntryS.l0 k l0 a1 0) = some r := h
 clear h
 have H' := zK H
 clear H
 go_enter Tryd.func94, Tryd.ntmps94
 go_wp2
 go_loopg [1, 5] k (fun kq v1 v5 w' => ∃ (x1_1 : Int) (x5_1 : Int), v1 = .int .i64 x1_1 ∧ v5 = .int .i64 x5_1 ∧ Aside0 (laws_heldEntryS.l0 kq l0 x1_1 x5_1 = some r) ∧ Aside0 (kq ≤ k) ∧ Aside0 (Below w.heap.size w w'))
 case atStart => exact ⟨(a1), (0), (by first | rfl | (simp; done) | (simp [*]; done)), (by first | rfl | (simp; done) | (simp [*]; done)), H', ⟨Nat.le_refl _⟩, ⟨by repeat (first | (with_reducible first | exact HB.out | apply zA | apply zN | apply zD) | exact HB.out)⟩⟩
 case round =>
  clear H'
  try clear p2
  obtain ⟨x1_1, x5_1, rfl, rfl, HA, HK1, HB⟩ := hrel
  cases gk with
  | zero => exact absurd HA.out (by simp [laws_heldEntryS.l0])
  | succ k1 =>
   have H := HA.out
   clear HA
   simp only [laws_heldEntryS.l0] at H
   by_cases c3 : x5_1 < (l0.length : Int)
   ·
    rw [if_pos c3] at H
    have c3b0 : decide (x5_1 < (l0.length : Int)) = true := decide_eq_true c3
    clear c3
    by_cases c4 : 0 ≤ x5_1
    ·
     rw [if_pos c4] at H
     have c4b0 : decide (0 ≤ x5_1) = true := decide_eq_true c4
     clear c4
     replace H := Option.bind_eq_some_iff.mp H
     obtain ⟨t737, A50, H⟩ := H
     replace H : (if ((rd_T80 l0 x5_1).f0).toList = t737.toList then (if ((rd_T80 l0 x5_1).f1) = (wrap64 (x1_1 + 1)) then (if ((rd_T80 l0 x5_1).f2) = (wrap64 ((wrap64 (x1_1 + 1)) + 1)) then ((laws_markText.f k1 (wrap64 ((wrap64 ((wrap64 (x1_1 + 1)) + 1)) + 1))).bind fun t741 => (if ((rd_T80 l0 x5_1).f3).toList = t741.toList then (laws_heldEntryS.l0 k1 l0 (wrap64 ((wrap64 ((wrap64 ((wrap64 (x1_1 + 1)) + 1)) + 1)) + 1)) (wrap64 (x5_1 + 1))) else (some (-1)))) else (some (-1))) else (some (-1))) else (some (-1))) = some r := H
     have A5 := zK A50
     clear A50
     by_cases c6 : ((rd_T80 l0 x5_1).f0).toList = t737.toList
     ·
      rw [if_pos c6] at H
      have c6b0 : (((rd_T80 l0 x5_1).f0).toList == t737.toList) = true := beq_iff_eq.mpr c6
      have c6b1 : (((rd_T80 l0 x5_1).f0).toList != t737.toList) = false := bne_eq_false_iff_eq.mpr c6
      clear c6
      by_cases c7 : ((rd_T80 l0 x5_1).f1) = (wrap64 (x1_1 + 1))
      ·
       rw [if_pos c7] at H
       have c7b0 : (((rd_T80 l0 x5_1).f1) == (wrap64 (x1_1 + 1))) = true := beq_iff_eq.mpr c7
       have c7b1 : (((rd_T80 l0 x5_1).f1) != (wrap64 (x1_1 + 1))) = false := bne_eq_false_iff_eq.mpr c7
       clear c7
       by_cases c8 : ((rd_T80 l0 x5_1).f2) = (wrap64 ((wrap64 (x1_1 + 1)) + 1))
       ·
        rw [if_pos c8] at H
        have c8b0 : (((rd_T80 l0 x5_1).f2) == (wrap64 ((wrap64 (x1_1 + 1)) + 1))) = true := beq_iff_eq.mpr c8
        have c8b1 : (((rd_T80 l0 x5_1).f2) != (wrap64 ((wrap64 (x1_1 + 1)) + 1))) = false := bne_eq_false_iff_eq.mpr c8
        clear c8
        replace H := Option.bind_eq_some_iff.mp H
        obtain ⟨t741, A90, H⟩ := H
        replace H : (if ((rd_T80 l0 x5_1).f3).toList = t741.toList then (laws_heldEntryS.l0 k1 l0 (wrap64 ((wrap64 ((wrap64 ((wrap64 (x1_1 + 1)) + 1)) + 1)) + 1)) (wrap64 (x5_1 + 1))) else (some (-1))) = some r := H
        have A9 := zK A90
        clear A90
        by_cases c10 : ((rd_T80 l0 x5_1).f3).toList = t741.toList
        ·
         rw [if_pos c10] at H
         have c10b0 : (((rd_T80 l0 x5_1).f3).toList == t741.toList) = true := beq_iff_eq.mpr c10
         have c10b1 : (((rd_T80 l0 x5_1).f3).toList != t741.toList) = false := bne_eq_false_iff_eq.mpr c10
         clear c10
         have H' := zK H
         clear H
         try go_wp2
         have n0_ := zK (zD HB.out)
         clear HB
         have HB := n0_
         clear n0_
         have p736 : 0 ≤ (x5_1 : Int) := zX (by first | (with_reducible assumption) | assumption)
         have q736 : x5_1 < (l0.length : Int) := zX (by first | (with_reducible assumption) | assumption)
         obtain ⟨ad736, e736, hx736_0, hx736_1, hx736_2, hx736_3⟩ := at_T80 HR0.out x5_1 p736 q736
         have hw736_3 := hx736_3
         have hw736_2 := hx736_2
         have hw736_1 := hx736_1
         have hw736_0 := hx736_0
         cases e736
         replace hx736_0 := (HB.out.cell (zL w _ hx736_0)).trans hx736_0
         replace hx736_1 := (HB.out.cell (zL w _ hx736_1)).trans hx736_1
         replace hx736_2 := (HB.out.cell (zL w _ hx736_2)).trans hx736_2
         replace hx736_3 := (HB.out.cell (zL w _ hx736_3)).trans hx736_3
         replace p736 := eq_true p736
         replace q736 := eq_true q736
         refine start_ (n := 8) (S := fun w' => w'.cell? (ad736.add ((x5_1).toNat * 4)) = some (.string ((rd_T80 l0 x5_1).f0)) ∧ w'.cell? ⟨(ad736.add ((x5_1).toNat * 4)).block, (ad736.add ((x5_1).toNat * 4)).off + 1, none⟩ = some (.int .i64 ((rd_T80 l0 x5_1).f1)) ∧ w'.cell? ⟨(ad736.add ((x5_1).toNat * 4)).block, (ad736.add ((x5_1).toNat * 4)).off + 2, none⟩ = some (.int .i64 ((rd_T80 l0 x5_1).f2)) ∧ w'.cell? ⟨(ad736.add ((x5_1).toNat * 4)).block, (ad736.add ((x5_1).toNat * 4)).off + 3, none⟩ = some (.string ((rd_T80 l0 x5_1).f3))) (ds := []) #[zF,zF,zF,zF,zF,zF,zF,zF] (by kernel_rfl) rfl rfl ⟨((HB.out.cell (zL w _ hw736_0)).trans hw736_0), ((HB.out.cell (zL w _ hw736_1)).trans hw736_1), ((HB.out.cell (zL w _ hw736_2)).trans hw736_2), ((HB.out.cell (zL w _ hw736_3)).trans hw736_3)⟩ (fun hHeld => ?_); refine with_tabW laws_heldEntryS.tab4 laws_heldEntryS.bits4 (fun HT_ HW_ => ?_)
         generalize wr.drew = w11 at HB hx736_0 hx736_1 hx736_2 hx736_3 hHeld ⊢
         refine pure_ (i := 0) (N := some 12) (v := ?_) (a' := ?_) #[zB,zF,zF,zF,zF,zF,zF,zF] rfl rfl (any_of HT_.out (by kernel_rfl)) (fun _ _ _ h => h) (Or.inl ⟨by rfl, ?_⟩) ?_ ?_
         rotate_left
         ·
          intro w'
          go_simp
          with_reducible rfl
         rotate_left
         ·
          simp only [Act.put, zS, zT, zU, i64_w, i32_w]
          rfl
         refine pure_ (i := 1) (N := some 13) (v := ?_) (a' := ?_) #[zB,zB,zF,zF,zF,zF,zF,zF] rfl rfl (any_of HT_.out (by kernel_rfl)) (fun _ _ _ h => h) (Or.inl ⟨by rfl, ?_⟩) ?_ ?_
         rotate_left
         ·
          intro w'
          go_simp
          with_reducible rfl
         rotate_left
         ·
          simp only [Act.put, zS, zT, zU, i64_w, i32_w]
          rfl
         refine pure_ (i := 2) (N := some 14) (v := ?_) (a' := ?_) #[zB,zB,zB,zF,zF,zF,zF,zF] rfl rfl (any_of HT_.out (by kernel_rfl)) (fun _ _ _ h => h) (Or.inl ⟨by rfl, ?_⟩) ?_ ?_
         rotate_left
         ·
          intro w'
          go_simp
          with_reducible rfl
         rotate_left
         ·
          simp only [Act.put, zS, zT, zU, i64_w, i32_w]
          rfl
         refine pure_ (i := 3) (N := some 15) (v := ?_) (a' := ?_) #[zB,zB,zB,zB,zF,zF,zF,zF] rfl rfl (any_of HT_.out (by kernel_rfl)) (fun _ _ _ h => h) (Or.inl ⟨by rfl, ?_⟩) ?_ ?_
         rotate_left
         ·
          intro w'
          go_simp
          with_reducible rfl
         rotate_left
         ·
          simp only [Act.put, zS, zT, zU, i64_w, i32_w]
          rfl
         refine pure_ (i := 5) (N := some 17) (v := ?_) (a' := ?_) #[zB,zB,zB,zB,zF,zB,zF,zF] rfl rfl (any_of HT_.out (by kernel_rfl)) (fun _ _ _ h => h) (Or.inl ⟨by rfl, ?_⟩) ?_ ?_
         rotate_left
         ·
          intro w'
          go_simp
          with_reducible rfl
         rotate_left
         ·
          simp only [Act.put, zS, zT, zU, i64_w, i32_w]
          rfl
         refine take_ (i := 4) (N := some 16) (v := ?_) (a' := ?_) #[zB,zB,zB,zB,zB,zB,zF,zF] rfl rfl (take_ofW HT_.out HW_.out (by kernel_rfl)) (fun _ _ _ h => h) (Or.inl ⟨by rfl, ?_⟩) hHeld ?_ ?_
         rotate_left
         ·
          rintro w' ⟨s0, s1, s2, s3⟩
          go_simp
          with_reducible rfl
         rotate_left
         ·
          simp only [Act.put, zS, zT, zU, i64_w, i32_w]
          rfl
         refine one_ (i := 6) (N := some 18) #[zB,zB,zB,zB,zB,zB,zB,zF] rfl rfl (one_of HT_.out (by kernel_rfl)) (by decide) (fun K hK => ?_)
         refine goes_ Tryd.func60 (by kernel_rfl) rfl #[.int .i64 x1_1] (by rfl) rfl rfl (by (try simp only [List.map_toArray, List.map_cons, List.map_nil]); first | done | rfl | (simp only [List.length_drop, List.length_take]; rfl)) ?_
         with_reducible refine (laws_markText.calls k1 x1_1 t737 _ A5.out).mono ?_
         rintro e w12 ⟨rfl, hb⟩
         refine ⟨_, rfl, ?_⟩
         have n0_ := zK (below_step (by repeat (first | (with_reducible first | exact HB.out | apply zA | apply zN | apply zD) | exact HB.out)) hb)
         clear HB
         have HB := n0_
         clear n0_
         (try clear hb)
         (try clear hb2)
         (try clear hk)
         (try clear hi)
         refine hK.out _ _ ⟨((HB.out.cell (zL w _ hw736_0)).trans hw736_0), ((HB.out.cell (zL w _ hw736_1)).trans hw736_1), ((HB.out.cell (zL w _ hw736_2)).trans hw736_2), ((HB.out.cell (zL w _ hw736_3)).trans hw736_3)⟩ (fun hHeld => ?_)
         clear hK K
         refine norm_ (a' := ?_) ?_ ?_
         rotate_left
         ·
          show Act.put _ (some 18) _ = _
          simp only [Act.put, zS, zT, zU, i64_w, i32_w]
          rfl
         refine pure_ (i := 7) (N := some 19) (v := ?_) (a' := ?_) #[zB,zB,zB,zB,zB,zB,zB,zB] rfl rfl (any_of HT_.out (by kernel_rfl)) (fun _ _ _ h => h) (Or.inl ⟨by rfl, ?_⟩) ?_ ?_
         rotate_left
         ·
          intro w'
          go_simp
          with_reducible rfl
         rotate_left
         ·
          simp only [Act.put, zS, zT, zU, i64_w, i32_w]
          rfl
         refine done_ (done_of HT_.out (by kernel_rfl)) ?_
         have p738 : 0 ≤ (x5_1 : Int) := zX (by first | (with_reducible assumption) | assumption)
         have q738 : x5_1 < (l0.length : Int) := zX (by first | (with_reducible assumption) | assumption)
         obtain ⟨ad738, e738, hx738_0, hx738_1, hx738_2, hx738_3⟩ := at_T80 HR0.out x5_1 p738 q738
         obtain rfl : ad736 = ad738 := (by injection e738)
         replace hx738_0 := (HB.out.cell (zL w _ hx738_0)).trans hx738_0
         replace hx738_1 := (HB.out.cell (zL w _ hx738_1)).trans hx738_1
         replace hx738_2 := (HB.out.cell (zL w _ hx738_2)).trans hx738_2
         replace hx738_3 := (HB.out.cell (zL w _ hx738_3)).trans hx738_3
         replace p738 := eq_true p738
         replace q738 := eq_true q738
         have p739 : 0 ≤ (x5_1 : Int) := zX (by first | (with_reducible assumption) | assumption)
         have q739 : x5_1 < (l0.length : Int) := zX (by first | (with_reducible assumption) | assumption)
         obtain ⟨ad739, e739, hx739_0, hx739_1, hx739_2, hx739_3⟩ := at_T80 HR0.out x5_1 p739 q739
         obtain rfl : ad736 = ad739 := (by injection e739)
         replace hx739_0 := (HB.out.cell (zL w _ hx739_0)).trans hx739_0
         replace hx739_1 := (HB.out.cell (zL w _ hx739_1)).trans hx739_1
         replace hx739_2 := (HB.out.cell (zL w _ hx739_2)).trans hx739_2
         replace hx739_3 := (HB.out.cell (zL w _ hx739_3)).trans hx739_3
         replace p739 := eq_true p739
         replace q739 := eq_true q739
         try go_wp2
         have n0_ := zK (zD HB.out)
         clear HB
         have HB := n0_
         clear n0_
         have p740 : 0 ≤ (x5_1 : Int) := zX (by first | (with_reducible assumption) | assumption)
         have q740 : x5_1 < (l0.length : Int) := zX (by first | (with_reducible assumption) | assumption)
         obtain ⟨ad740, e740, hx740_0, hx740_1, hx740_2, hx740_3⟩ := at_T80 HR0.out x5_1 p740 q740
         have hw740_3 := hx740_3
         have hw740_2 := hx740_2
         have hw740_1 := hx740_1
         have hw740_0 := hx740_0
         obtain rfl : ad736 = ad740 := (by injection e740)
         replace hx740_0 := (HB.out.cell (zL w _ hx740_0)).trans hx740_0
         replace hx740_1 := (HB.out.cell (zL w _ hx740_1)).trans hx740_1
         replace hx740_2 := (HB.out.cell (zL w _ hx740_2)).trans hx740_2
         replace hx740_3 := (HB.out.cell (zL w _ hx740_3)).trans hx740_3
         replace p740 := eq_true p740
         replace q740 := eq_true q740
         refine start_ (n := 8) (S := fun w' => w'.cell? (ad736.add ((x5_1).toNat * 4)) = some (.string ((rd_T80 l0 x5_1).f0)) ∧ w'.cell? ⟨(ad736.add ((x5_1).toNat * 4)).block, (ad736.add ((x5_1).toNat * 4)).off + 1, none⟩ = some (.int .i64 ((rd_T80 l0 x5_1).f1)) ∧ w'.cell? ⟨(ad736.add ((x5_1).toNat * 4)).block, (ad736.add ((x5_1).toNat * 4)).off + 2, none⟩ = some (.int .i64 ((rd_T80 l0 x5_1).f2)) ∧ w'.cell? ⟨(ad736.add ((x5_1).toNat * 4)).block, (ad736.add ((x5_1).toNat * 4)).off + 3, none⟩ = some (.string ((rd_T80 l0 x5_1).f3))) (ds := []) #[zF,zF,zF,zF,zF,zF,zF,zF] (by kernel_rfl) rfl rfl ⟨((HB.out.cell (zL w _ hw740_0)).trans hw740_0), ((HB.out.cell (zL w _ hw740_1)).trans hw740_1), ((HB.out.cell (zL w _ hw740_2)).trans hw740_2), ((HB.out.cell (zL w _ hw740_3)).trans hw740_3)⟩ (fun hHeld => ?_); refine with_tabW laws_heldEntryS.tab13 laws_heldEntryS.bits13 (fun HT_ HW_ => ?_)
         generalize w12.drew = w13 at HB hx740_0 hx740_1 hx740_2 hx740_3 hHeld ⊢
         refine pure_ (i := 0) (N := some 40) (v := ?_) (a' := ?_) #[zB,zF,zF,zF,zF,zF,zF,zF] rfl rfl (any_of HT_.out (by kernel_rfl)) (fun _ _ _ h => h) (Or.inl ⟨by rfl, ?_⟩) ?_ ?_
         rotate_left
         ·
          intro w'
          go_simp
          with_reducible rfl
         rotate_left
         ·
          simp only [Act.put, zS, zT, zU, i64_w, i32_w]
          rfl
         refine pure_ (i := 1) (N := some 41) (v := ?_) (a' := ?_) #[zB,zB,zF,zF,zF,zF,zF,zF] rfl rfl (any_of HT_.out (by kernel_rfl)) (fun _ _ _ h => h) (Or.inl ⟨by rfl, ?_⟩) ?_ ?_
         rotate_left
         ·
          intro w'
          go_simp
          with_reducible rfl
         rotate_left
         ·
          simp only [Act.put, zS, zT, zU, i64_w, i32_w]
          rfl
         refine pure_ (i := 2) (N := some 42) (v := ?_) (a' := ?_) #[zB,zB,zB,zF,zF,zF,zF,zF] rfl rfl (any_of HT_.out (by kernel_rfl)) (fun _ _ _ h => h) (Or.inl ⟨by rfl, ?_⟩) ?_ ?_
         rotate_left
         ·
          intro w'
          go_simp
          with_reducible rfl
         rotate_left
         ·
          simp only [Act.put, zS, zT, zU, i64_w, i32_w]
          rfl
         refine pure_ (i := 3) (N := some 43) (v := ?_) (a' := ?_) #[zB,zB,zB,zB,zF,zF,zF,zF] rfl rfl (any_of HT_.out (by kernel_rfl)) (fun _ _ _ h => h) (Or.inl ⟨by rfl, ?_⟩) ?_ ?_
         rotate_left
         ·
          intro w'
          go_simp
          with_reducible rfl
         rotate_left
         ·
          simp only [Act.put, zS, zT, zU, i64_w, i32_w]
          rfl
         refine pure_ (i := 5) (N := some 45) (v := ?_) (a' := ?_) #[zB,zB,zB,zB,zF,zB,zF,zF] rfl rfl (any_of HT_.out (by kernel_rfl)) (fun _ _ _ h => h) (Or.inl ⟨by rfl, ?_⟩) ?_ ?_
         rotate_left
         ·
          intro w'
          go_simp
          with_reducible rfl
         rotate_left
         ·
          simp only [Act.put, zS, zT, zU, i64_w, i32_w]
          rfl
         refine take_ (i := 4) (N := some 44) (v := ?_) (a' := ?_) #[zB,zB,zB,zB,zB,zB,zF,zF] rfl rfl (take_ofW HT_.out HW_.out (by kernel_rfl)) (fun _ _ _ h => h) (Or.inl ⟨by rfl, ?_⟩) hHeld ?_ ?_
         rotate_left
         ·
          rintro w' ⟨s0, s1, s2, s3⟩
          go_simp
          with_reducible rfl
         rotate_left
         ·
          simp only [Act.put, zS, zT, zU, i64_w, i32_w]
          rfl
         refine one_ (i := 6) (N := some 46) #[zB,zB,zB,zB,zB,zB,zB,zF] rfl rfl (one_of HT_.out (by kernel_rfl)) (by decide) (fun K hK => ?_)
         refine goes_ Tryd.func60 (by kernel_rfl) rfl #[.int .i64 (wrap64 ((wrap64 ((wrap64 (x1_1 + 1)) + 1)) + 1))] (by rfl) rfl rfl (by (try simp only [List.map_toArray, List.map_cons, List.map_nil]); first | done | rfl | (simp only [List.length_drop, List.length_take]; rfl)) ?_
         with_reducible refine (laws_markText.calls k1 (wrap64 ((wrap64 ((wrap64 (x1_1 + 1)) + 1)) + 1)) t741 _ A9.out).mono ?_
         rintro e w14 ⟨rfl, hb⟩
         refine ⟨_, rfl, ?_⟩
         have n0_ := zK (below_step (by repeat (first | (with_reducible first | exact HB.out | apply zA | apply zN | apply zD) | exact HB.out)) hb)
         clear HB
         have HB := n0_
         clear n0_
         (try clear hb)
         (try clear hb2)
         (try clear hk)
         (try clear hi)
         refine hK.out _ _ ⟨((HB.out.cell (zL w _ hw740_0)).trans hw740_0), ((HB.out.cell (zL w _ hw740_1)).trans hw740_1), ((HB.out.cell (zL w _ hw740_2)).trans hw740_2), ((HB.out.cell (zL w _ hw740_3)).trans hw740_3)⟩ (fun hHeld => ?_)
         clear hK K
         refine norm_ (a' := ?_) ?_ ?_
         rotate_left
         ·
          show Act.put _ (some 46) _ = _
          simp only [Act.put, zS, zT, zU, i64_w, i32_w]
          rfl
         refine pure_ (i := 7) (N := some 47) (v := ?_) (a' := ?_) #[zB,zB,zB,zB,zB,zB,zB,zB] rfl rfl (any_of HT_.out (by kernel_rfl)) (fun _ _ _ h => h) (Or.inl ⟨by rfl, ?_⟩) ?_ ?_
         rotate_left
         ·
          intro w'
          go_simp
          with_reducible rfl
         rotate_left
         ·
          simp only [Act.put, zS, zT, zU, i64_w, i32_w]
          rfl
         refine done_ (done_of HT_.out (by kernel_rfl)) ?_
         try go_wp2
         go_roundg k1
         case measure => have := HK1.out; omega
         case rel => exact ⟨(wrap64 ((wrap64 ((wrap64 ((wrap64 (x1_1 + 1)) + 1)) + 1)) + 1)), (wrap64 (x5_1 + 1)), (by first | rfl | (simp; done) | (simp [*]; done)), (by first | rfl | (simp; done) | (simp [*]; done)), H', ⟨by have := HK1.out; omega⟩, ⟨by repeat (first | (with_reducible first | exact HB.out | apply zA | apply zN | apply zD) | exact HB.out)⟩⟩
        ·
         rw [if_neg c10] at H
         have c10b0 : (((rd_T80 l0 x5_1).f3).toList == t741.toList) = false := beq_eq_false_iff_ne.mpr c10
         have c10b1 : (((rd_T80 l0 x5_1).f3).toList != t741.toList) = true := bne_iff_ne.mpr c10
         obtain rfl := Option.some.inj H
         try go_wp2
         have n0_ := zK (zD HB.out)
         clear HB
         have HB := n0_
         clear n0_
         have p736 : 0 ≤ (x5_1 : Int) := zX (by first | (with_reducible assumption) | assumption)
         have q736 : x5_1 < (l0.length : Int) := zX (by first | (with_reducible assumption) | assumption)
         obtain ⟨ad736, e736, hx736_0, hx736_1, hx736_2, hx736_3⟩ := at_T80 HR0.out x5_1 p736 q736
         have hw736_3 := hx736_3
         have hw736_2 := hx736_2
         have hw736_1 := hx736_1
         have hw736_0 := hx736_0
         cases e736
         replace hx736_0 := (HB.out.cell (zL w _ hx736_0)).trans hx736_0
         replace hx736_1 := (HB.out.cell (zL w _ hx736_1)).trans hx736_1
         replace hx736_2 := (HB.out.cell (zL w _ hx736_2)).trans hx736_2
         replace hx736_3 := (HB.out.cell (zL w _ hx736_3)).trans hx736_3
         replace p736 := eq_true p736
         replace q736 := eq_true q736
         refine start_ (n := 8) (S := fun w' => w'.cell? (ad736.add ((x5_1).toNat * 4)) = some (.string ((rd_T80 l0 x5_1).f0)) ∧ w'.cell? ⟨(ad736.add ((x5_1).toNat * 4)).block, (ad736.add ((x5_1).toNat * 4)).off + 1, none⟩ = some (.int .i64 ((rd_T80 l0 x5_1).f1)) ∧ w'.cell? ⟨(ad736.add ((x5_1).toNat * 4)).block, (ad736.add ((x5_1).toNat * 4)).off + 2, none⟩ = some (.int .i64 ((rd_T80 l0 x5_1).f2)) ∧ w'.cell? ⟨(ad736.add ((x5_1).toNat * 4)).block, (ad736.add ((x5_1).toNat * 4)).off + 3, none⟩ = some (.string ((rd_T80 l0 x5_1).f3))) (ds := []) #[zF,zF,zF,zF,zF,zF,zF,zF] (by kernel_rfl) rfl rfl ⟨((HB.out.cell (zL w _ hw736_0)).trans hw736_0), ((HB.out.cell (zL w _ hw736_1)).trans hw736_1), ((HB.out.cell (zL w _ hw736_2)).trans hw736_2), ((HB.out.cell (zL w _ hw736_3)).trans hw736_3)⟩ (fun hHeld => ?_); refine with_tabW laws_heldEntryS.tab4 laws_heldEntryS.bits4 (fun HT_ HW_ => ?_)
         generalize wr.drew = w15 at HB hx736_0 hx736_1 hx736_2 hx736_3 hHeld ⊢
         refine pure_ (i := 0) (N := some 12) (v := ?_) (a' := ?_) #[zB,zF,zF,zF,zF,zF,zF,zF] rfl rfl (any_of HT_.out (by kernel_rfl)) (fun _ _ _ h => h) (Or.inl ⟨by rfl, ?_⟩) ?_ ?_
         rotate_left
         ·
          intro w'
          go_simp
          with_reducible rfl
         rotate_left
         ·
          simp only [Act.put, zS, zT, zU, i64_w, i32_w]
          rfl
         refine pure_ (i := 1) (N := some 13) (v := ?_) (a' := ?_) #[zB,zB,zF,zF,zF,zF,zF,zF] rfl rfl (any_of HT_.out (by kernel_rfl)) (fun _ _ _ h => h) (Or.inl ⟨by rfl, ?_⟩) ?_ ?_
         rotate_left
         ·
          intro w'
          go_simp
          with_reducible rfl
         rotate_left
         ·
          simp only [Act.put, zS, zT, zU, i64_w, i32_w]
          rfl
         refine pure_ (i := 2) (N := some 14) (v := ?_) (a' := ?_) #[zB,zB,zB,zF,zF,zF,zF,zF] rfl rfl (any_of HT_.out (by kernel_rfl)) (fun _ _ _ h => h) (Or.inl ⟨by rfl, ?_⟩) ?_ ?_
         rotate_left
         ·
          intro w'
          go_simp
          with_reducible rfl
         rotate_left
         ·
          simp only [Act.put, zS, zT, zU, i64_w, i32_w]
          rfl
         refine pure_ (i := 3) (N := some 15) (v := ?_) (a' := ?_) #[zB,zB,zB,zB,zF,zF,zF,zF] rfl rfl (any_of HT_.out (by kernel_rfl)) (fun _ _ _ h => h) (Or.inl ⟨by rfl, ?_⟩) ?_ ?_
         rotate_left
         ·
          intro w'
          go_simp
          with_reducible rfl
         rotate_left
         ·
          simp only [Act.put, zS, zT, zU, i64_w, i32_w]
          rfl
         refine pure_ (i := 5) (N := some 17) (v := ?_) (a' := ?_) #[zB,zB,zB,zB,zF,zB,zF,zF] rfl rfl (any_of HT_.out (by kernel_rfl)) (fun _ _ _ h => h) (Or.inl ⟨by rfl, ?_⟩) ?_ ?_
         rotate_left
         ·
          intro w'
          go_simp
          with_reducible rfl
         rotate_left
         ·
          simp only [Act.put, zS, zT, zU, i64_w, i32_w]
          rfl
         refine take_ (i := 4) (N := some 16) (v := ?_) (a' := ?_) #[zB,zB,zB,zB,zB,zB,zF,zF] rfl rfl (take_ofW HT_.out HW_.out (by kernel_rfl)) (fun _ _ _ h => h) (Or.inl ⟨by rfl, ?_⟩) hHeld ?_ ?_
         rotate_left
         ·
          rintro w' ⟨s0, s1, s2, s3⟩
          go_simp
          with_reducible rfl
         rotate_left
         ·
          simp only [Act.put, zS, zT, zU, i64_w, i32_w]
          rfl
         refine one_ (i := 6) (N := some 18) #[zB,zB,zB,zB,zB,zB,zB,zF] rfl rfl (one_of HT_.out (by kernel_rfl)) (by decide) (fun K hK => ?_)
         refine goes_ Tryd.func60 (by kernel_rfl) rfl #[.int .i64 x1_1] (by rfl) rfl rfl (by (try simp only [List.map_toArray, List.map_cons, List.map_nil]); first | done | rfl | (simp only [List.length_drop, List.length_take]; rfl)) ?_
         with_reducible refine (laws_markText.calls k1 x1_1 t737 _ A5.out).mono ?_
         rintro e w16 ⟨rfl, hb⟩
         refine ⟨_, rfl, ?_⟩
         have n0_ := zK (below_step (by repeat (first | (with_reducible first | exact HB.out | apply zA | apply zN | apply zD) | exact HB.out)) hb)
         clear HB
         have HB := n0_
         clear n0_
         (try clear hb)
         (try clear hb2)
         (try clear hk)
         (try clear hi)
         refine hK.out _ _ ⟨((HB.out.cell (zL w _ hw736_0)).trans hw736_0), ((HB.out.cell (zL w _ hw736_1)).trans hw736_1), ((HB.out.cell (zL w _ hw736_2)).trans hw736_2), ((HB.out.cell (zL w _ hw736_3)).trans hw736_3)⟩ (fun hHeld => ?_)
         clear hK K
         refine norm_ (a' := ?_) ?_ ?_
         rotate_left
         ·
          show Act.put _ (some 18) _ = _
          simp only [Act.put, zS, zT, zU, i64_w, i32_w]
          rfl
         refine pure_ (i := 7) (N := some 19) (v := ?_) (a' := ?_) #[zB,zB,zB,zB,zB,zB,zB,zB] rfl rfl (any_of HT_.out (by kernel_rfl)) (fun _ _ _ h => h) (Or.inl ⟨by rfl, ?_⟩) ?_ ?_
         rotate_left
         ·
          intro w'
          go_simp
          with_reducible rfl
         rotate_left
         ·
          simp only [Act.put, zS, zT, zU, i64_w, i32_w]
          rfl
         refine done_ (done_of HT_.out (by kernel_rfl)) ?_
         have p738 : 0 ≤ (x5_1 : Int) := zX (by first | (with_reducible assumption) | assumption)
         have q738 : x5_1 < (l0.length : Int) := zX (by first | (with_reducible assumption) | assumption)
         obtain ⟨ad738, e738, hx738_0, hx738_1, hx738_2, hx738_3⟩ := at_T80 HR0.out x5_1 p738 q738
         obtain rfl : ad736 = ad738 := (by injection e738)
         replace hx738_0 := (HB.out.cell (zL w _ hx738_0)).trans hx738_0
         replace hx738_1 := (HB.out.cell (zL w _ hx738_1)).trans hx738_1
         replace hx738_2 := (HB.out.cell (zL w _ hx738_2)).trans hx738_2
         replace hx738_3 := (HB.out.cell (zL w _ hx738_3)).trans hx738_3
         replace p738 := eq_true p738
         replace q738 := eq_true q738
         have p739 : 0 ≤ (x5_1 : Int) := zX (by first | (with_reducible assumption) | assumption)
         have q739 : x5_1 < (l0.length : Int) := zX (by first | (with_reducible assumption) | assumption)
         obtain ⟨ad739, e739, hx739_0, hx739_1, hx739_2, hx739_3⟩ := at_T80 HR0.out x5_1 p739 q739
         obtain rfl : ad736 = ad739 := (by injection e739)
         replace hx739_0 := (HB.out.cell (zL w _ hx739_0)).trans hx739_0
         replace hx739_1 := (HB.out.cell (zL w _ hx739_1)).trans hx739_1
         replace hx739_2 := (HB.out.cell (zL w _ hx739_2)).trans hx739_2
         replace hx739_3 := (HB.out.cell (zL w _ hx739_3)).trans hx739_3
         replace p739 := eq_true p739
         replace q739 := eq_true q739
         try go_wp2
         have n0_ := zK (zD HB.out)
         clear HB
         have HB := n0_
         clear n0_
         have p740 : 0 ≤ (x5_1 : Int) := zX (by first | (with_reducible assumption) | assumption)
         have q740 : x5_1 < (l0.length : Int) := zX (by first | (with_reducible assumption) | assumption)
         obtain ⟨ad740, e740, hx740_0, hx740_1, hx740_2, hx740_3⟩ := at_T80 HR0.out x5_1 p740 q740
         have hw740_3 := hx740_3
         have hw740_2 := hx740_2
         have hw740_1 := hx740_1
         have hw740_0 := hx740_0
         obtain rfl : ad736 = ad740 := (by injection e740)
         replace hx740_0 := (HB.out.cell (zL w _ hx740_0)).trans hx740_0
         replace hx740_1 := (HB.out.cell (zL w _ hx740_1)).trans hx740_1
         replace hx740_2 := (HB.out.cell (zL w _ hx740_2)).trans hx740_2
         replace hx740_3 := (HB.out.cell (zL w _ hx740_3)).trans hx740_3
         replace p740 := eq_true p740
         replace q740 := eq_true q740
         refine start_ (n := 8) (S := fun w' => w'.cell? (ad736.add ((x5_1).toNat * 4)) = some (.string ((rd_T80 l0 x5_1).f0)) ∧ w'.cell? ⟨(ad736.add ((x5_1).toNat * 4)).block, (ad736.add ((x5_1).toNat * 4)).off + 1, none⟩ = some (.int .i64 ((rd_T80 l0 x5_1).f1)) ∧ w'.cell? ⟨(ad736.add ((x5_1).toNat * 4)).block, (ad736.add ((x5_1).toNat * 4)).off + 2, none⟩ = some (.int .i64 ((rd_T80 l0 x5_1).f2)) ∧ w'.cell? ⟨(ad736.add ((x5_1).toNat * 4)).block, (ad736.add ((x5_1).toNat * 4)).off + 3, none⟩ = some (.string ((rd_T80 l0 x5_1).f3))) (ds := []) #[zF,zF,zF,zF,zF,zF,zF,zF] (by kernel_rfl) rfl rfl ⟨((HB.out.cell (zL w _ hw740_0)).trans hw740_0), ((HB.out.cell (zL w _ hw740_1)).trans hw740_1), ((HB.out.cell (zL w _ hw740_2)).trans hw740_2), ((HB.out.cell (zL w _ hw740_3)).trans hw740_3)⟩ (fun hHeld => ?_); refine with_tabW laws_heldEntryS.tab13 laws_heldEntryS.bits13 (fun HT_ HW_ => ?_)
         generalize w16.drew = w17 at HB hx740_0 hx740_1 hx740_2 hx740_3 hHeld ⊢
         refine pure_ (i := 0) (N := some 40) (v := ?_) (a' := ?_) #[zB,zF,zF,zF,zF,zF,zF,zF] rfl rfl (any_of HT_.out (by kernel_rfl)) (fun _ _ _ h => h) (Or.inl ⟨by rfl, ?_⟩) ?_ ?_
         rotate_left
         ·
          intro w'
          go_simp
          with_reducible rfl
         rotate_left
         ·
          simp only [Act.put, zS, zT, zU, i64_w, i32_w]
          rfl
         refine pure_ (i := 1) (N := some 41) (v := ?_) (a' := ?_) #[zB,zB,zF,zF,zF,zF,zF,zF] rfl rfl (any_of HT_.out (by kernel_rfl)) (fun _ _ _ h => h) (Or.inl ⟨by rfl, ?_⟩) ?_ ?_
         rotate_left
         ·
          intro w'
          go_simp
          with_reducible rfl
         rotate_left
         ·
          simp only [Act.put, zS, zT, zU, i64_w, i32_w]
          rfl
         refine pure_ (i := 2) (N := some 42) (v := ?_) (a' := ?_) #[zB,zB,zB,zF,zF,zF,zF,zF] rfl rfl (any_of HT_.out (by kernel_rfl)) (fun _ _ _ h => h) (Or.inl ⟨by rfl, ?_⟩) ?_ ?_
         rotate_left
         ·
          intro w'
          go_simp
          with_reducible rfl
         rotate_left
         ·
          simp only [Act.put, zS, zT, zU, i64_w, i32_w]
          rfl
         refine pure_ (i := 3) (N := some 43) (v := ?_) (a' := ?_) #[zB,zB,zB,zB,zF,zF,zF,zF] rfl rfl (any_of HT_.out (by kernel_rfl)) (fun _ _ _ h => h) (Or.inl ⟨by rfl, ?_⟩) ?_ ?_
         rotate_left
         ·
          intro w'
          go_simp
          with_reducible rfl
         rotate_left
         ·
          simp only [Act.put, zS, zT, zU, i64_w, i32_w]
          rfl
         refine pure_ (i := 5) (N := some 45) (v := ?_) (a' := ?_) #[zB,zB,zB,zB,zF,zB,zF,zF] rfl rfl (any_of HT_.out (by kernel_rfl)) (fun _ _ _ h => h) (Or.inl ⟨by rfl, ?_⟩) ?_ ?_
         rotate_left
         ·
          intro w'
          go_simp
          with_reducible rfl
         rotate_left
         ·
          simp only [Act.put, zS, zT, zU, i64_w, i32_w]
          rfl
         refine take_ (i := 4) (N := some 44) (v := ?_) (a' := ?_) #[zB,zB,zB,zB,zB,zB,zF,zF] rfl rfl (take_ofW HT_.out HW_.out (by kernel_rfl)) (fun _ _ _ h => h) (Or.inl ⟨by rfl, ?_⟩) hHeld ?_ ?_
         rotate_left
         ·
          rintro w' ⟨s0, s1, s2, s3⟩
          go_simp
          with_reducible rfl
         rotate_left
         ·
          simp only [Act.put, zS, zT, zU, i64_w, i32_w]
          rfl
         refine one_ (i := 6) (N := some 46) #[zB,zB,zB,zB,zB,zB,zB,zF] rfl rfl (one_of HT_.out (by kernel_rfl)) (by decide) (fun K hK => ?_)
         refine goes_ Tryd.func60 (by kernel_rfl) rfl #[.int .i64 (wrap64 ((wrap64 ((wrap64 (x1_1 + 1)) + 1)) + 1))] (by rfl) rfl rfl (by (try simp only [List.map_toArray, List.map_cons, List.map_nil]); first | done | rfl | (simp only [List.length_drop, List.length_take]; rfl)) ?_
         with_reducible refine (laws_markText.calls k1 (wrap64 ((wrap64 ((wrap64 (x1_1 + 1)) + 1)) + 1)) t741 _ A9.out).mono ?_
         rintro e w18 ⟨rfl, hb⟩
         refine ⟨_, rfl, ?_⟩
         have n0_ := zK (below_step (by repeat (first | (with_reducible first | exact HB.out | apply zA | apply zN | apply zD) | exact HB.out)) hb)
         clear HB
         have HB := n0_
         clear n0_
         (try clear hb)
         (try clear hb2)
         (try clear hk)
         (try clear hi)
         refine hK.out _ _ ⟨((HB.out.cell (zL w _ hw740_0)).trans hw740_0), ((HB.out.cell (zL w _ hw740_1)).trans hw740_1), ((HB.out.cell (zL w _ hw740_2)).trans hw740_2), ((HB.out.cell (zL w _ hw740_3)).trans hw740_3)⟩ (fun hHeld => ?_)
         clear hK K
         refine norm_ (a' := ?_) ?_ ?_
         rotate_left
         ·
          show Act.put _ (some 46) _ = _
          simp only [Act.put, zS, zT, zU, i64_w, i32_w]
          rfl
         refine pure_ (i := 7) (N := some 47) (v := ?_) (a' := ?_) #[zB,zB,zB,zB,zB,zB,zB,zB] rfl rfl (any_of HT_.out (by kernel_rfl)) (fun _ _ _ h => h) (Or.inl ⟨by rfl, ?_⟩) ?_ ?_
         rotate_left
         ·
          intro w'
          go_simp
          with_reducible rfl
         rotate_left
         ·
          simp only [Act.put, zS, zT, zU, i64_w, i32_w]
          rfl
         refine done_ (done_of HT_.out (by kernel_rfl)) ?_
         try go_wp2
         go_ret
         exact ⟨by first | rfl | (simp [errW_none, errW_some] <;> rfl) | (simp [*, errW_none, errW_some] <;> rfl), by repeat (first | (with_reducible first | exact HB.out | apply zA | apply zN | apply zD) | exact HB.out)⟩
       ·
        rw [if_neg c8] at H
        have c8b0 : (((rd_T80 l0 x5_1).f2) == (wrap64 ((wrap64 (x1_1 + 1)) + 1))) = false := beq_eq_false_iff_ne.mpr c8
        have c8b1 : (((rd_T80 l0 x5_1).f2) != (wrap64 ((wrap64 (x1_1 + 1)) + 1))) = true := bne_iff_ne.mpr c8
        obtain rfl := Option.some.inj H
        try go_wp2
        have n0_ := zK (zD HB.out)
        clear HB
        have HB := n0_
        clear n0_
        have p736 : 0 ≤ (x5_1 : Int) := zX (by first | (with_reducible assumption) | assumption)
        have q736 : x5_1 < (l0.length : Int) := zX (by first | (with_reducible assumption) | assumption)
        obtain ⟨ad736, e736, hx736_0, hx736_1, hx736_2, hx736_3⟩ := at_T80 HR0.out x5_1 p736 q736
        have hw736_3 := hx736_3
        have hw736_2 := hx736_2
        have hw736_1 := hx736_1
        have hw736_0 := hx736_0
        cases e736
        replace hx736_0 := (HB.out.cell (zL w _ hx736_0)).trans hx736_0
        replace hx736_1 := (HB.out.cell (zL w _ hx736_1)).trans hx736_1
        replace hx736_2 := (HB.out.cell (zL w _ hx736_2)).trans hx736_2
        replace hx736_3 := (HB.out.cell (zL w _ hx736_3)).trans hx736_3
        replace p736 := eq_true p736
        replace q736 := eq_true q736
        refine start_ (n := 8) (S := fun w' => w'.cell? (ad736.add ((x5_1).toNat * 4)) = some (.string ((rd_T80 l0 x5_1).f0)) ∧ w'.cell? ⟨(ad736.add ((x5_1).toNat * 4)).block, (ad736.add ((x5_1).toNat * 4)).off + 1, none⟩ = some (.int .i64 ((rd_T80 l0 x5_1).f1)) ∧ w'.cell? ⟨(ad736.add ((x5_1).toNat * 4)).block, (ad736.add ((x5_1).toNat * 4)).off + 2, none⟩ = some (.int .i64 ((rd_T80 l0 x5_1).f2)) ∧ w'.cell? ⟨(ad736.add ((x5_1).toNat * 4)).block, (ad736.add ((x5_1).toNat * 4)).off + 3, none⟩ = some (.string ((rd_T80 l0 x5_1).f3))) (ds := []) #[zF,zF,zF,zF,zF,zF,zF,zF] (by kernel_rfl) rfl rfl ⟨((HB.out.cell (zL w _ hw736_0)).trans hw736_0), ((HB.out.cell (zL w _ hw736_1)).trans hw736_1), ((HB.out.cell (zL w _ hw736_2)).trans hw736_2), ((HB.out.cell (zL w _ hw736_3)).trans hw736_3)⟩ (fun hHeld => ?_); refine with_tabW laws_heldEntryS.tab4 laws_heldEntryS.bits4 (fun HT_ HW_ => ?_)
        generalize wr.drew = w19 at HB hx736_0 hx736_1 hx736_2 hx736_3 hHeld ⊢
        refine pure_ (i := 0) (N := some 12) (v := ?_) (a' := ?_) #[zB,zF,zF,zF,zF,zF,zF,zF] rfl rfl (any_of HT_.out (by kernel_rfl)) (fun _ _ _ h => h) (Or.inl ⟨by rfl, ?_⟩) ?_ ?_
        rotate_left
        ·
         intro w'
         go_simp
         with_reducible rfl
        rotate_left
        ·
         simp only [Act.put, zS, zT, zU, i64_w, i32_w]
         rfl
        refine pure_ (i := 1) (N := some 13) (v := ?_) (a' := ?_) #[zB,zB,zF,zF,zF,zF,zF,zF] rfl rfl (any_of HT_.out (by kernel_rfl)) (fun _ _ _ h => h) (Or.inl ⟨by rfl, ?_⟩) ?_ ?_
        rotate_left
        ·
         intro w'
         go_simp
         with_reducible rfl
        rotate_left
        ·
         simp only [Act.put, zS, zT, zU, i64_w, i32_w]
         rfl
        refine pure_ (i := 2) (N := some 14) (v := ?_) (a' := ?_) #[zB,zB,zB,zF,zF,zF,zF,zF] rfl rfl (any_of HT_.out (by kernel_rfl)) (fun _ _ _ h => h) (Or.inl ⟨by rfl, ?_⟩) ?_ ?_
        rotate_left
        ·
         intro w'
         go_simp
         with_reducible rfl
        rotate_left
        ·
         simp only [Act.put, zS, zT, zU, i64_w, i32_w]
         rfl
        refine pure_ (i := 3) (N := some 15) (v := ?_) (a' := ?_) #[zB,zB,zB,zB,zF,zF,zF,zF] rfl rfl (any_of HT_.out (by kernel_rfl)) (fun _ _ _ h => h) (Or.inl ⟨by rfl, ?_⟩) ?_ ?_
        rotate_left
        ·
         intro w'
         go_simp
         with_reducible rfl
        rotate_left
        ·
         simp only [Act.put, zS, zT, zU, i64_w, i32_w]
         rfl
        refine pure_ (i := 5) (N := some 17) (v := ?_) (a' := ?_) #[zB,zB,zB,zB,zF,zB,zF,zF] rfl rfl (any_of HT_.out (by kernel_rfl)) (fun _ _ _ h => h) (Or.inl ⟨by rfl, ?_⟩) ?_ ?_
        rotate_left
        ·
         intro w'
         go_simp
         with_reducible rfl
        rotate_left
        ·
         simp only [Act.put, zS, zT, zU, i64_w, i32_w]
         rfl
        refine take_ (i := 4) (N := some 16) (v := ?_) (a' := ?_) #[zB,zB,zB,zB,zB,zB,zF,zF] rfl rfl (take_ofW HT_.out HW_.out (by kernel_rfl)) (fun _ _ _ h => h) (Or.inl ⟨by rfl, ?_⟩) hHeld ?_ ?_
        rotate_left
        ·
         rintro w' ⟨s0, s1, s2, s3⟩
         go_simp
         with_reducible rfl
        rotate_left
        ·
         simp only [Act.put, zS, zT, zU, i64_w, i32_w]
         rfl
        refine one_ (i := 6) (N := some 18) #[zB,zB,zB,zB,zB,zB,zB,zF] rfl rfl (one_of HT_.out (by kernel_rfl)) (by decide) (fun K hK => ?_)
        refine goes_ Tryd.func60 (by kernel_rfl) rfl #[.int .i64 x1_1] (by rfl) rfl rfl (by (try simp only [List.map_toArray, List.map_cons, List.map_nil]); first | done | rfl | (simp only [List.length_drop, List.length_take]; rfl)) ?_
        with_reducible refine (laws_markText.calls k1 x1_1 t737 _ A5.out).mono ?_
        rintro e w20 ⟨rfl, hb⟩
        refine ⟨_, rfl, ?_⟩
        have n0_ := zK (below_step (by repeat (first | (with_reducible first | exact HB.out | apply zA | apply zN | apply zD) | exact HB.out)) hb)
        clear HB
        have HB := n0_
        clear n0_
        (try clear hb)
        (try clear hb2)
        (try clear hk)
        (try clear hi)
        refine hK.out _ _ ⟨((HB.out.cell (zL w _ hw736_0)).trans hw736_0), ((HB.out.cell (zL w _ hw736_1)).trans hw736_1), ((HB.out.cell (zL w _ hw736_2)).trans hw736_2), ((HB.out.cell (zL w _ hw736_3)).trans hw736_3)⟩ (fun hHeld => ?_)
        clear hK K
        refine norm_ (a' := ?_) ?_ ?_
        rotate_left
        ·
         show Act.put _ (some 18) _ = _
         simp only [Act.put, zS, zT, zU, i64_w, i32_w]
         rfl
        refine pure_ (i := 7) (N := some 19) (v := ?_) (a' := ?_) #[zB,zB,zB,zB,zB,zB,zB,zB] rfl rfl (any_of HT_.out (by kernel_rfl)) (fun _ _ _ h => h) (Or.inl ⟨by rfl, ?_⟩) ?_ ?_
        rotate_left
        ·
         intro w'
         go_simp
         with_reducible rfl
        rotate_left
        ·
         simp only [Act.put, zS, zT, zU, i64_w, i32_w]
         rfl
        refine done_ (done_of HT_.out (by kernel_rfl)) ?_
        have p738 : 0 ≤ (x5_1 : Int) := zX (by first | (with_reducible assumption) | assumption)
        have q738 : x5_1 < (l0.length : Int) := zX (by first | (with_reducible assumption) | assumption)
        obtain ⟨ad738, e738, hx738_0, hx738_1, hx738_2, hx738_3⟩ := at_T80 HR0.out x5_1 p738 q738
        obtain rfl : ad736 = ad738 := (by injection e738)
        replace hx738_0 := (HB.out.cell (zL w _ hx738_0)).trans hx738_0
        replace hx738_1 := (HB.out.cell (zL w _ hx738_1)).trans hx738_1
        replace hx738_2 := (HB.out.cell (zL w _ hx738_2)).trans hx738_2
        replace hx738_3 := (HB.out.cell (zL w _ hx738_3)).trans hx738_3
        replace p738 := eq_true p738
        replace q738 := eq_true q738
        have p739 : 0 ≤ (x5_1 : Int) := zX (by first | (with_reducible assumption) | assumption)
        have q739 : x5_1 < (l0.length : Int) := zX (by first | (with_reducible assumption) | assumption)
        obtain ⟨ad739, e739, hx739_0, hx739_1, hx739_2, hx739_3⟩ := at_T80 HR0.out x5_1 p739 q739
        obtain rfl : ad736 = ad739 := (by injection e739)
        replace hx739_0 := (HB.out.cell (zL w _ hx739_0)).trans hx739_0
        replace hx739_1 := (HB.out.cell (zL w _ hx739_1)).trans hx739_1
        replace hx739_2 := (HB.out.cell (zL w _ hx739_2)).trans hx739_2
        replace hx739_3 := (HB.out.cell (zL w _ hx739_3)).trans hx739_3
        replace p739 := eq_true p739
        replace q739 := eq_true q739
        try go_wp2
        go_ret
        exact ⟨by first | rfl | (simp [errW_none, errW_some] <;> rfl) | (simp [*, errW_none, errW_some] <;> rfl), by repeat (first | (with_reducible first | exact HB.out | apply zA | apply zN | apply zD) | exact HB.out)⟩
      ·
       rw [if_neg c7] at H
       have c7b0 : (((rd_T80 l0 x5_1).f1) == (wrap64 (x1_1 + 1))) = false := beq_eq_false_iff_ne.mpr c7
       have c7b1 : (((rd_T80 l0 x5_1).f1) != (wrap64 (x1_1 + 1))) = true := bne_iff_ne.mpr c7
       obtain rfl := Option.some.inj H
       try go_wp2
       have n0_ := zK (zD HB.out)
       clear HB
       have HB := n0_
       clear n0_
       have p736 : 0 ≤ (x5_1 : Int) := zX (by first | (with_reducible assumption) | assumption)
       have q736 : x5_1 < (l0.length : Int) := zX (by first | (with_reducible assumption) | assumption)
       obtain ⟨ad736, e736, hx736_0, hx736_1, hx736_2, hx736_3⟩ := at_T80 HR0.out x5_1 p736 q736
       have hw736_3 := hx736_3
       have hw736_2 := hx736_2
       have hw736_1 := hx736_1
       have hw736_0 := hx736_0
       cases e736
       replace hx736_0 := (HB.out.cell (zL w _ hx736_0)).trans hx736_0
       replace hx736_1 := (HB.out.cell (zL w _ hx736_1)).trans hx736_1
       replace hx736_2 := (HB.out.cell (zL w _ hx736_2)).trans hx736_2
       replace hx736_3 := (HB.out.cell (zL w _ hx736_3)).trans hx736_3
       replace p736 := eq_true p736
       replace q736 := eq_true q736
       refine start_ (n := 8) (S := fun w' => w'.cell? (ad736.add ((x5_1).toNat * 4)) = some (.string ((rd_T80 l0 x5_1).f0)) ∧ w'.cell? ⟨(ad736.add ((x5_1).toNat * 4)).block, (ad736.add ((x5_1).toNat * 4)).off + 1, none⟩ = some (.int .i64 ((rd_T80 l0 x5_1).f1)) ∧ w'.cell? ⟨(ad736.add ((x5_1).toNat * 4)).block, (ad736.add ((x5_1).toNat * 4)).off + 2, none⟩ = some (.int .i64 ((rd_T80 l0 x5_1).f2)) ∧ w'.cell? ⟨(ad736.add ((x5_1).toNat * 4)).block, (ad736.add ((x5_1).toNat * 4)).off + 3, none⟩ = some (.string ((rd_T80 l0 x5_1).f3))) (ds := []) #[zF,zF,zF,zF,zF,zF,zF,zF] (by kernel_rfl) rfl rfl ⟨((HB.out.cell (zL w _ hw736_0)).trans hw736_0), ((HB.out.cell (zL w _ hw736_1)).trans hw736_1), ((HB.out.cell (zL w _ hw736_2)).trans hw736_2), ((HB.out.cell (zL w _ hw736_3)).trans hw736_3)⟩ (fun hHeld => ?_); refine with_tabW laws_heldEntryS.tab4 laws_heldEntryS.bits4 (fun HT_ HW_ => ?_)
       generalize wr.drew = w21 at HB hx736_0 hx736_1 hx736_2 hx736_3 hHeld ⊢
       refine pure_ (i := 0) (N := some 12) (v := ?_) (a' := ?_) #[zB,zF,zF,zF,zF,zF,zF,zF] rfl rfl (any_of HT_.out (by kernel_rfl)) (fun _ _ _ h => h) (Or.inl ⟨by rfl, ?_⟩) ?_ ?_
       rotate_left
       ·
        intro w'
        go_simp
        with_reducible rfl
       rotate_left
       ·
        simp only [Act.put, zS, zT, zU, i64_w, i32_w]
        rfl
       refine pure_ (i := 1) (N := some 13) (v := ?_) (a' := ?_) #[zB,zB,zF,zF,zF,zF,zF,zF] rfl rfl (any_of HT_.out (by kernel_rfl)) (fun _ _ _ h => h) (Or.inl ⟨by rfl, ?_⟩) ?_ ?_
       rotate_left
       ·
        intro w'
        go_simp
        with_reducible rfl
       rotate_left
       ·
        simp only [Act.put, zS, zT, zU, i64_w, i32_w]
        rfl
       refine pure_ (i := 2) (N := some 14) (v := ?_) (a' := ?_) #[zB,zB,zB,zF,zF,zF,zF,zF] rfl rfl (any_of HT_.out (by kernel_rfl)) (fun _ _ _ h => h) (Or.inl ⟨by rfl, ?_⟩) ?_ ?_
       rotate_left
       ·
        intro w'
        go_simp
        with_reducible rfl
       rotate_left
       ·
        simp only [Act.put, zS, zT, zU, i64_w, i32_w]
        rfl
       refine pure_ (i := 3) (N := some 15) (v := ?_) (a' := ?_) #[zB,zB,zB,zB,zF,zF,zF,zF] rfl rfl (any_of HT_.out (by kernel_rfl)) (fun _ _ _ h => h) (Or.inl ⟨by rfl, ?_⟩) ?_ ?_
       rotate_left
       ·
        intro w'
        go_simp
        with_reducible rfl
       rotate_left
       ·
        simp only [Act.put, zS, zT, zU, i64_w, i32_w]
        rfl
       refine pure_ (i := 5) (N := some 17) (v := ?_) (a' := ?_) #[zB,zB,zB,zB,zF,zB,zF,zF] rfl rfl (any_of HT_.out (by kernel_rfl)) (fun _ _ _ h => h) (Or.inl ⟨by rfl, ?_⟩) ?_ ?_
       rotate_left
       ·
        intro w'
        go_simp
        with_reducible rfl
       rotate_left
       ·
        simp only [Act.put, zS, zT, zU, i64_w, i32_w]
        rfl
       refine take_ (i := 4) (N := some 16) (v := ?_) (a' := ?_) #[zB,zB,zB,zB,zB,zB,zF,zF] rfl rfl (take_ofW HT_.out HW_.out (by kernel_rfl)) (fun _ _ _ h => h) (Or.inl ⟨by rfl, ?_⟩) hHeld ?_ ?_
       rotate_left
       ·
        rintro w' ⟨s0, s1, s2, s3⟩
        go_simp
        with_reducible rfl
       rotate_left
       ·
        simp only [Act.put, zS, zT, zU, i64_w, i32_w]
        rfl
       refine one_ (i := 6) (N := some 18) #[zB,zB,zB,zB,zB,zB,zB,zF] rfl rfl (one_of HT_.out (by kernel_rfl)) (by decide) (fun K hK => ?_)
       refine goes_ Tryd.func60 (by kernel_rfl) rfl #[.int .i64 x1_1] (by rfl) rfl rfl (by (try simp only [List.map_toArray, List.map_cons, List.map_nil]); first | done | rfl | (simp only [List.length_drop, List.length_take]; rfl)) ?_
       with_reducible refine (laws_markText.calls k1 x1_1 t737 _ A5.out).mono ?_
       rintro e w22 ⟨rfl, hb⟩
       refine ⟨_, rfl, ?_⟩
       have n0_ := zK (below_step (by repeat (first | (with_reducible first | exact HB.out | apply zA | apply zN | apply zD) | exact HB.out)) hb)
       clear HB
       have HB := n0_
       clear n0_
       (try clear hb)
       (try clear hb2)
       (try clear hk)
       (try clear hi)
       refine hK.out _ _ ⟨((HB.out.cell (zL w _ hw736_0)).trans hw736_0), ((HB.out.cell (zL w _ hw736_1)).trans hw736_1), ((HB.out.cell (zL w _ hw736_2)).trans hw736_2), ((HB.out.cell (zL w _ hw736_3)).trans hw736_3)⟩ (fun hHeld => ?_)
       clear hK K
       refine norm_ (a' := ?_) ?_ ?_
       rotate_left
       ·
        show Act.put _ (some 18) _ = _
        simp only [Act.put, zS, zT, zU, i64_w, i32_w]
        rfl
       refine pure_ (i := 7) (N := some 19) (v := ?_) (a' := ?_) #[zB,zB,zB,zB,zB,zB,zB,zB] rfl rfl (any_of HT_.out (by kernel_rfl)) (fun _ _ _ h => h) (Or.inl ⟨by rfl, ?_⟩) ?_ ?_
       rotate_left
       ·
        intro w'
        go_simp
        with_reducible rfl
       rotate_left
       ·
        simp only [Act.put, zS, zT, zU, i64_w, i32_w]
        rfl
       refine done_ (done_of HT_.out (by kernel_rfl)) ?_
       have p738 : 0 ≤ (x5_1 : Int) := zX (by first | (with_reducible assumption) | assumption)
       have q738 : x5_1 < (l0.length : Int) := zX (by first | (with_reducible assumption) | assumption)
       obtain ⟨ad738, e738, hx738_0, hx738_1, hx738_2, hx738_3⟩ := at_T80 HR0.out x5_1 p738 q738
       obtain rfl : ad736 = ad738 := (by injection e738)
       replace hx738_0 := (HB.out.cell (zL w _ hx738_0)).trans hx738_0
       replace hx738_1 := (HB.out.cell (zL w _ hx738_1)).trans hx738_1
       replace hx738_2 := (HB.out.cell (zL w _ hx738_2)).trans hx738_2
       replace hx738_3 := (HB.out.cell (zL w _ hx738_3)).trans hx738_3
       replace p738 := eq_true p738
       replace q738 := eq_true q738
       try go_wp2
       go_ret
       exact ⟨by first | rfl | (simp [errW_none, errW_some] <;> rfl) | (simp [*, errW_none, errW_some] <;> rfl), by repeat (first | (with_reducible first | exact HB.out | apply zA | apply zN | apply zD) | exact HB.out)⟩
     ·
      rw [if_neg c6] at H
      have c6b0 : (((rd_T80 l0 x5_1).f0).toList == t737.toList) = false := beq_eq_false_iff_ne.mpr c6
      have c6b1 : (((rd_T80 l0 x5_1).f0).toList != t737.toList) = true := bne_iff_ne.mpr c6
      obtain rfl := Option.some.inj H
      try go_wp2
      have n0_ := zK (zD HB.out)
      clear HB
      have HB := n0_
      clear n0_
      have p736 : 0 ≤ (x5_1 : Int) := zX (by first | (with_reducible assumption) | assumption)
      have q736 : x5_1 < (l0.length : Int) := zX (by first | (with_reducible assumption) | assumption)
      obtain ⟨ad736, e736, hx736_0, hx736_1, hx736_2, hx736_3⟩ := at_T80 HR0.out x5_1 p736 q736
      have hw736_3 := hx736_3
      have hw736_2 := hx736_2
      have hw736_1 := hx736_1
      have hw736_0 := hx736_0
      cases e736
      replace hx736_0 := (HB.out.cell (zL w _ hx736_0)).trans hx736_0
      replace hx736_1 := (HB.out.cell (zL w _ hx736_1)).trans hx736_1
      replace hx736_2 := (HB.out.cell (zL w _ hx736_2)).trans hx736_2
      replace hx736_3 := (HB.out.cell (zL w _ hx736_3)).trans hx736_3
      replace p736 := eq_true p736
      replace q736 := eq_true q736
      refine start_ (n := 8) (S := fun w' => w'.cell? (ad736.add ((x5_1).toNat * 4)) = some (.string ((rd_T80 l0 x5_1).f0)) ∧ w'.cell? ⟨(ad736.add ((x5_1).toNat * 4)).block, (ad736.add ((x5_1).toNat * 4)).off + 1, none⟩ = some (.int .i64 ((rd_T80 l0 x5_1).f1)) ∧ w'.cell? ⟨(ad736.add ((x5_1).toNat * 4)).block, (ad736.add ((x5_1).toNat * 4)).off + 2, none⟩ = some (.int .i64 ((rd_T80 l0 x5_1).f2)) ∧ w'.cell? ⟨(ad736.add ((x5_1).toNat * 4)).block, (ad736.add ((x5_1).toNat * 4)).off + 3, none⟩ = some (.string ((rd_T80 l0 x5_1).f3))) (ds := []) #[zF,zF,zF,zF,zF,zF,zF,zF] (by kernel_rfl) rfl rfl ⟨((HB.out.cell (zL w _ hw736_0)).trans hw736_0), ((HB.out.cell (zL w _ hw736_1)).trans hw736_1), ((HB.out.cell (zL w _ hw736_2)).trans hw736_2), ((HB.out.cell (zL w _ hw736_3)).trans hw736_3)⟩ (fun hHeld => ?_); refine with_tabW laws_heldEntryS.tab4 laws_heldEntryS.bits4 (fun HT_ HW_ => ?_)
      generalize wr.drew = w23 at HB hx736_0 hx736_1 hx736_2 hx736_3 hHeld ⊢
      refine pure_ (i := 0) (N := some 12) (v := ?_) (a' := ?_) #[zB,zF,zF,zF,zF,zF,zF,zF] rfl rfl (any_of HT_.out (by kernel_rfl)) (fun _ _ _ h => h) (Or.inl ⟨by rfl, ?_⟩) ?_ ?_
      rotate_left
      ·
       intro w'
       go_simp
       with_reducible rfl
      rotate_left
      ·
       simp only [Act.put, zS, zT, zU, i64_w, i32_w]
       rfl
      refine pure_ (i := 1) (N := some 13) (v := ?_) (a' := ?_) #[zB,zB,zF,zF,zF,zF,zF,zF] rfl rfl (any_of HT_.out (by kernel_rfl)) (fun _ _ _ h => h) (Or.inl ⟨by rfl, ?_⟩) ?_ ?_
      rotate_left
      ·
       intro w'
       go_simp
       with_reducible rfl
      rotate_left
      ·
       simp only [Act.put, zS, zT, zU, i64_w, i32_w]
       rfl
      refine pure_ (i := 2) (N := some 14) (v := ?_) (a' := ?_) #[zB,zB,zB,zF,zF,zF,zF,zF] rfl rfl (any_of HT_.out (by kernel_rfl)) (fun _ _ _ h => h) (Or.inl ⟨by rfl, ?_⟩) ?_ ?_
      rotate_left
      ·
       intro w'
       go_simp
       with_reducible rfl
      rotate_left
      ·
       simp only [Act.put, zS, zT, zU, i64_w, i32_w]
       rfl
      refine pure_ (i := 3) (N := some 15) (v := ?_) (a' := ?_) #[zB,zB,zB,zB,zF,zF,zF,zF] rfl rfl (any_of HT_.out (by kernel_rfl)) (fun _ _ _ h => h) (Or.inl ⟨by rfl, ?_⟩) ?_ ?_
      rotate_left
      ·
       intro w'
       go_simp
       with_reducible rfl
      rotate_left
      ·
       simp only [Act.put, zS, zT, zU, i64_w, i32_w]
       rfl
      refine pure_ (i := 5) (N := some 17) (v := ?_) (a' := ?_) #[zB,zB,zB,zB,zF,zB,zF,zF] rfl rfl (any_of HT_.out (by kernel_rfl)) (fun _ _ _ h => h) (Or.inl ⟨by rfl, ?_⟩) ?_ ?_
      rotate_left
      ·
       intro w'
       go_simp
       with_reducible rfl
      rotate_left
      ·
       simp only [Act.put, zS, zT, zU, i64_w, i32_w]
       rfl
      refine take_ (i := 4) (N := some 16) (v := ?_) (a' := ?_) #[zB,zB,zB,zB,zB,zB,zF,zF] rfl rfl (take_ofW HT_.out HW_.out (by kernel_rfl)) (fun _ _ _ h => h) (Or.inl ⟨by rfl, ?_⟩) hHeld ?_ ?_
      rotate_left
      ·
       rintro w' ⟨s0, s1, s2, s3⟩
       go_simp
       with_reducible rfl
      rotate_left
      ·
       simp only [Act.put, zS, zT, zU, i64_w, i32_w]
       rfl
      refine one_ (i := 6) (N := some 18) #[zB,zB,zB,zB,zB,zB,zB,zF] rfl rfl (one_of HT_.out (by kernel_rfl)) (by decide) (fun K hK => ?_)
      refine goes_ Tryd.func60 (by kernel_rfl) rfl #[.int .i64 x1_1] (by rfl) rfl rfl (by (try simp only [List.map_toArray, List.map_cons, List.map_nil]); first | done | rfl | (simp only [List.length_drop, List.length_take]; rfl)) ?_
      with_reducible refine (laws_markText.calls k1 x1_1 t737 _ A5.out).mono ?_
      rintro e w24 ⟨rfl, hb⟩
      refine ⟨_, rfl, ?_⟩
      have n0_ := zK (below_step (by repeat (first | (with_reducible first | exact HB.out | apply zA | apply zN | apply zD) | exact HB.out)) hb)
      clear HB
      have HB := n0_
      clear n0_
      (try clear hb)
      (try clear hb2)
      (try clear hk)
      (try clear hi)
      refine hK.out _ _ ⟨((HB.out.cell (zL w _ hw736_0)).trans hw736_0), ((HB.out.cell (zL w _ hw736_1)).trans hw736_1), ((HB.out.cell (zL w _ hw736_2)).trans hw736_2), ((HB.out.cell (zL w _ hw736_3)).trans hw736_3)⟩ (fun hHeld => ?_)
      clear hK K
      refine norm_ (a' := ?_) ?_ ?_
      rotate_left
      ·
       show Act.put _ (some 18) _ = _
       simp only [Act.put, zS, zT, zU, i64_w, i32_w]
       rfl
      refine pure_ (i := 7) (N := some 19) (v := ?_) (a' := ?_) #[zB,zB,zB,zB,zB,zB,zB,zB] rfl rfl (any_of HT_.out (by kernel_rfl)) (fun _ _ _ h => h) (Or.inl ⟨by rfl, ?_⟩) ?_ ?_
      rotate_left
      ·
       intro w'
       go_simp
       with_reducible rfl
      rotate_left
      ·
       simp only [Act.put, zS, zT, zU, i64_w, i32_w]
       rfl
      refine done_ (done_of HT_.out (by kernel_rfl)) ?_
      try go_wp2
      go_ret
      exact ⟨by first | rfl | (simp [errW_none, errW_some] <;> rfl) | (simp [*, errW_none, errW_some] <;> rfl), by repeat (first | (with_reducible first | exact HB.out | apply zA | apply zN | apply zD) | exact HB.out)⟩
    ·
     rw [if_neg c4] at H
     exact absurd H (by simp)
   ·
    rw [if_neg c3] at H
    have c3b0 : decide (x5_1 < (l0.length : Int)) = false := decide_eq_false c3
    clear c3
    obtain rfl := Option.some.inj H
    go_wp2
    go_ret
    exact ⟨by first | rfl | (simp [errW_none, errW_some] <;> rfl) | (simp [*, errW_none, errW_some] <;> rfl), by repeat (first | (with_reducible first | exact HB.out | apply zA | apply zN | apply zD) | exact HB.out)⟩


/-! ### laws_heldEntriesResult: function 44 -/
def laws_heldEntriesResult.f (k : Nat) (a0_0 : Int) (a0_1 : Int) (l0_2 : List (S80)) (a1 : Int) : Option (Int) := (laws_heldEntryS.f k l0_2 a1).bind fun t743 => (if t743 < 0 then (some (-1)) else (some t743))
theorem laws_heldEntriesResult.mono : ∀ a0 a1 a2 a3 k, LeO (laws_heldEntriesResult.f k a0 a1 a2 a3) (laws_heldEntriesResult.f (k + 1) a0 a1 a2 a3) := by
 intro a0 a1 a2 a3 k
 unfold laws_heldEntriesResult.f
 repeat' first
   | (with_reducible exact laws_heldEntryS.mono _ _ _)
   | (with_reducible exact LeO.refl _)
   | (with_reducible exact LeO.none _)
   | (with_reducible refine LeO.ite ?_ ?_)
   | (with_reducible refine LeO.bind ?_ (fun _ => ?_))
   | exact laws_heldEntryS.mono _ _ _
   | exact LeO.none _
   | refine LeO.ite ?_ ?_
   | refine LeO.bind ?_ (fun _ => ?_)
set_option maxHeartbeats 8000000 in
set_option maxRecDepth 100000 in
theorem laws_heldEntriesResult.calls (k : Nat) (a0_0 : Int) (a0_1 : Int) (A0_2 : Option Addr) (c0_2 : Nat) (l0_2 : List (S80)) (a1 : Int) (r : Int) (w : World) (hr0_2 : Kd.C k80 w A0_2 l0_2.length l0_2) (hc0_2 : l0_2.length ≤ c0_2) (h : laws_heldEntriesResult.f k a0_0 a0_1 l0_2 a1 = some r) :
  Calls Tryd.prog 44 #[.agg #[.int .i64 a0_0, .int .i64 a0_1, .slice A0_2 l0_2.length c0_2], .int .i64 a1] w fun e w' => e = .returned (.int .i64 r) ∧ Below w.heap.size w w' := by
 have hu65 := Tryd.underlying65
 have HR0_2 := zK hr0_2
 have HC0_2 := zK hc0_2
 clear hr0_2 hc0_2
 have HB := zK (Below.refl w.heap.size w)
 have H : ((laws_heldEntryS.f k l0_2 a1).bind fun t743 => (if t743 < 0 then (some (-1)) else (some t743))) = some r := h
 clear h
 replace H := Option.bind_eq_some_iff.mp H
 obtain ⟨t743, A30, H⟩ := H
 replace H : (if t743 < 0 then (some (-1)) else (some t743)) = some r := H
 have A3 := zK A30
 clear A30
 by_cases c4 : t743 < 0
 ·
  rw [if_pos c4] at H
  have c4b0 : decide (t743 < 0) = true := decide_eq_true c4
  clear c4
  obtain rfl := Option.some.inj H
  go_enter Tryd.func44, Tryd.ntmps44
  go_wp2_with (first | ((with_reducible refine gate_dst (N := 2) rfl ?_); refine box_event ?hg (N := 2) ?hd (cs := #[.int .i64 a0_0, .int .i64 a0_1, .slice A0_2 l0_2.length c0_2]) (t := 65) ?hr ?_; (case hd => rfl); (case hg => rfl); (case hr => first | (go_simp; done) | (go_simp; rfl)); intro gb742 hg w5 hbox hb; have n0_ := zK (below_step (by repeat (first | (with_reducible first | exact HB.out | apply zA | apply zN | apply zD) | exact HB.out)) hb); have n1_ := zK (hbox); have n2_ := zK ((by rw [hg]; exact (below_size (by repeat (first | (with_reducible first | exact HB.out | apply zA | apply zN | apply zD) | exact HB.out))) : w.heap.size ≤ gb742)); have n3_ := zK ((by rw [hg]; exact (below_size (by repeat (first | (with_reducible first | exact HB.out | apply zA | apply zN | apply zD) | exact HB.out))) : w.heap.size ≤ gb742)); clear HB; have HB := n0_; have BK742 := n1_; have GW742 := n2_; have GE742 := n3_; clear n0_ n1_ n2_ n3_; clear hb hbox hg; have hcz6_0 : w5.cell? ⟨gb742, 0, none⟩ = some (.int .i64 a0_0) := (blk_cell BK742.out 0).trans rfl; have hcz6_1 : w5.cell? ⟨gb742, 1, none⟩ = some (.int .i64 a0_1) := (blk_cell BK742.out 1).trans rfl; have hcz6_2 : w5.cell? ⟨gb742, 2, none⟩ = some (.slice A0_2 l0_2.length c0_2) := (blk_cell BK742.out 2).trans rfl; have hfz6_0 := blk_frozen BK742.out 0; have hfz6_1 := blk_frozen BK742.out 1; have hfz6_2 := blk_frozen BK742.out 2) | ((with_reducible refine gate_callee (f := 94) rfl ?_); refine goesL_ (some 8) rfl rfl Tryd.func94 (by kernel_rfl) rfl #[.slice A0_2 l0_2.length c0_2, .int .i64 a1] rfl (by (try simp only [List.map_toArray, List.map_cons, List.map_nil]); first | done | rfl | (simp only [List.length_drop, List.length_take]; rfl)) ?_; (with_reducible refine (laws_heldEntryS.calls k _ _ l0_2 a1 t743 _ ?side1 ?side2 A3.out).mono ?_); (case side1 => repeat (first | exact (Kd.C_below HR0_2.out HB.out) | (with_reducible refine Kd.C_alloc ?_ _) | (with_reducible refine Kd.C_drewN ?_ _) | (with_reducible refine Kd.C_drew ?_))); (case side2 => exact HC0_2.out); rintro e w7 ⟨rfl, hb⟩; refine ⟨_, rfl, ?_⟩; have n0_ := zK (blk_below (g := gb742) (o := .cells #[.int .i64 a0_0, .int .i64 a0_1, .slice A0_2 l0_2.length c0_2] 65 (0, 0)) (by (with_reducible repeat (first | refine zM ?_ _ | refine zP ?_ | refine zQ ?_ _)); exact BK742.out) hb); have n1_ := zK (below_step (by repeat (first | (with_reducible first | exact HB.out | apply zA | apply zN | apply zD | refine below_set ?_ GE742.out) | exact HB.out)) hb); clear BK742; clear HB; have BK742 := n0_; have HB := n1_; clear n0_ n1_; (try clear hb); (try clear hb2); (try clear hk); (try clear hi)))
  go_ret
  exact ⟨by first | rfl | (simp [errW_none, errW_some] <;> rfl) | (simp [*, errW_none, errW_some] <;> rfl), by repeat (first | (with_reducible first | exact HB.out | apply zA | apply zN | apply zD | refine below_set ?_ GE742.out) | exact HB.out)⟩
 ·
  rw [if_neg c4] at H
  have c4b0 : decide (t743 < 0) = false := decide_eq_false c4
  clear c4
  obtain rfl := Option.some.inj H
  go_enter Tryd.func44, Tryd.ntmps44
  go_wp2_with (first | ((with_reducible refine gate_dst (N := 2) rfl ?_); refine box_event ?hg (N := 2) ?hd (cs := #[.int .i64 a0_0, .int .i64 a0_1, .slice A0_2 l0_2.length c0_2]) (t := 65) ?hr ?_; (case hd => rfl); (case hg => rfl); (case hr => first | (go_simp; done) | (go_simp; rfl)); intro gb742 hg w8 hbox hb; have n0_ := zK (below_step (by repeat (first | (with_reducible first | exact HB.out | apply zA | apply zN | apply zD) | exact HB.out)) hb); have n1_ := zK (hbox); have n2_ := zK ((by rw [hg]; exact (below_size (by repeat (first | (with_reducible first | exact HB.out | apply zA | apply zN | apply zD) | exact HB.out))) : w.heap.size ≤ gb742)); have n3_ := zK ((by rw [hg]; exact (below_size (by repeat (first | (with_reducible first | exact HB.out | apply zA | apply zN | apply zD) | exact HB.out))) : w.heap.size ≤ gb742)); clear HB; have HB := n0_; have BK742 := n1_; have GW742 := n2_; have GE742 := n3_; clear n0_ n1_ n2_ n3_; clear hb hbox hg; have hcz9_0 : w8.cell? ⟨gb742, 0, none⟩ = some (.int .i64 a0_0) := (blk_cell BK742.out 0).trans rfl; have hcz9_1 : w8.cell? ⟨gb742, 1, none⟩ = some (.int .i64 a0_1) := (blk_cell BK742.out 1).trans rfl; have hcz9_2 : w8.cell? ⟨gb742, 2, none⟩ = some (.slice A0_2 l0_2.length c0_2) := (blk_cell BK742.out 2).trans rfl; have hfz9_0 := blk_frozen BK742.out 0; have hfz9_1 := blk_frozen BK742.out 1; have hfz9_2 := blk_frozen BK742.out 2) | ((with_reducible refine gate_callee (f := 94) rfl ?_); refine goesL_ (some 8) rfl rfl Tryd.func94 (by kernel_rfl) rfl #[.slice A0_2 l0_2.length c0_2, .int .i64 a1] rfl (by (try simp only [List.map_toArray, List.map_cons, List.map_nil]); first | done | rfl | (simp only [List.length_drop, List.length_take]; rfl)) ?_; (with_reducible refine (laws_heldEntryS.calls k _ _ l0_2 a1 t743 _ ?side1 ?side2 A3.out).mono ?_); (case side1 => repeat (first | exact (Kd.C_below HR0_2.out HB.out) | (with_reducible refine Kd.C_alloc ?_ _) | (with_reducible refine Kd.C_drewN ?_ _) | (with_reducible refine Kd.C_drew ?_))); (case side2 => exact HC0_2.out); rintro e w10 ⟨rfl, hb⟩; refine ⟨_, rfl, ?_⟩; have n0_ := zK (blk_below (g := gb742) (o := .cells #[.int .i64 a0_0, .int .i64 a0_1, .slice A0_2 l0_2.length c0_2] 65 (0, 0)) (by (with_reducible repeat (first | refine zM ?_ _ | refine zP ?_ | refine zQ ?_ _)); exact BK742.out) hb); have n1_ := zK (below_step (by repeat (first | (with_reducible first | exact HB.out | apply zA | apply zN | apply zD | refine below_set ?_ GE742.out) | exact HB.out)) hb); clear BK742; clear HB; have BK742 := n0_; have HB := n1_; clear n0_ n1_; (try clear hb); (try clear hb2); (try clear hk); (try clear hi)))
  go_ret
  exact ⟨by first | rfl | (simp [errW_none, errW_some] <;> rfl) | (simp [*, errW_none, errW_some] <;> rfl), by repeat (first | (with_reducible first | exact HB.out | apply zA | apply zN | apply zD | refine below_set ?_ GE742.out) | exact HB.out)⟩

end Go.Proofs.YtjibadlbiapcmaaDoor.PX

namespace Go.Proofs.YtjibadlbiapcmaaDoorX
open Go Go.RowKit Go.Proofs.YtjibadlbiapcmaaDoorW.PrintWords Go.Proofs.YtjibadlbiapcmaaDoor.PX

theorem markText_l0 : ∀ (f n : Nat) (x : ByteArray), n < 10 ^ f → x.size + f + 1 ≤ 9223372036854775807 → n ≤ 9223372036854775807 → ∃ t, laws_markText.l0 (f + 1) (n : Int) x = some t
  | 0, n, x, hn, hx, _ => by
    have : n = 0 := by simpa using hn
    subst this
    rw [laws_markText.l0, if_neg (by omega), if_pos (by omega)]
    exact ⟨_, rfl⟩
  | f + 1, n, x, hn, hx, hb => by
    by_cases h0 : n = 0
    · subst h0
      rw [laws_markText.l0, if_neg (by omega), if_pos (by omega)]
      exact ⟨_, rfl⟩
    · have e : wrap64 (Int.tdiv (n : Int) 10) = ((n / 10 : Nat) : Int) := by
        rw [show Int.tdiv (n : Int) 10 = ((n / 10 : Nat) : Int) from rfl]
        exact wrap_in (by omega) (by omega)
      rw [laws_markText.l0, if_pos (by omega)]
      simp only [Option.bind_some]
      rw [if_pos (by rw [strOfNums_size]; simp only [List.length_cons, List.length_nil]; omega), e]
      exact markText_l0 f (n / 10) _ (by rw [Nat.pow_succ] at hn; omega) (by rw [ByteArray.size_append, strOfNums_size]; simp only [List.length_cons, List.length_nil]; omega) (by omega)

def markT (n : Nat) : ByteArray := (laws_markText.f 21 (n : Int)).getD ByteArray.empty
theorem markText_tells (n : Nat) (hn : n ≤ 9223372036854775807) (k : Nat) (hk : 21 ≤ k) : laws_markText.f k (n : Int) = some (markT n) := by
  have base : laws_markText.f 21 (n : Int) = some (markT n) := by
    have : ∃ t, laws_markText.f 21 (n : Int) = some t := by
      unfold laws_markText.f
      split
      · exact ⟨_, rfl⟩
      · exact markText_l0 20 n _ (by omega) (by simp [ByteArray.size]) hn
    obtain ⟨t, ht⟩ := this
    unfold markT
    rw [ht]
    rfl
  have up : ∀ d, laws_markText.f (21 + d) (n : Int) = some (markT n) := by
    intro d
    induction d with
    | zero => exact base
    | succ d ih => exact laws_markText.mono _ _ _ ih
  have := up (k - 21)
  rwa [show 21 + (k - 21) = k by omega] at this

/-- marked: each element in turn overwritten by what its number tells. -/
theorem mark_all {α : Type} {F : Nat → List α → Int → Int → Option (Int × List α)} (c : Nat) (mk : Nat → α) (N K : Nat)
    (hF : ∀ (k : Nat) (xs : List α) (n i : Nat), K ≤ k → i < xs.length → xs.length ≤ N → n + c ≤ N → F (k + 1) xs (n : Int) (i : Int) = F k (xs.set i (mk n)) ((n + c : Nat) : Int) ((i + 1 : Nat) : Int))
    (hE : ∀ k xs n, F (k + 1) xs n (xs.length : Int) = some (n, xs)) :
    ∀ (d i n : Nat) (xs : List α), i + d = xs.length → xs.length ≤ N → n + c * d ≤ N → ∀ k, K + d < k → F k xs (n : Int) (i : Int) = some (((n + c * d : Nat) : Int), xs.take i ++ (List.range d).map fun j => mk (n + c * j))
  | 0, i, n, xs, hi, hL, hn, k, hk => by
    obtain ⟨k, rfl⟩ : ∃ m, k = m + 1 := ⟨k - 1, by omega⟩
    have e : i = xs.length := by omega
    subst e
    rw [hE]
    simp
  | d + 1, i, n, xs, hi, hL, hn, k, hk => by
    obtain ⟨k, rfl⟩ : ∃ m, k = m + 1 := ⟨k - 1, by omega⟩
    have hd : c * (d + 1) = c * d + c := Nat.mul_succ c d
    have hlt : i < xs.length := by omega
    rw [hF k xs n i (by omega) hlt hL (by omega), mark_all c mk N K hF hE d (i + 1) (n + c) (xs.set i (mk n)) (by rw [List.length_set]; omega) (by rw [List.length_set]; exact hL) (by omega) k (by omega)]
    have hlt2 : i < (xs.set i (mk n)).length := by rw [List.length_set]; exact hlt
    rw [show n + c + c * d = n + c * (d + 1) by omega, List.take_succ_eq_append_getElem hlt2, List.getElem_set_self, List.take_set_of_le (Nat.le_refl _), List.range_succ_eq_map, List.map_cons, List.map_map, List.append_assoc]
    congr 4
    show mk n :: _ = _
    congr 1
    apply List.map_congr_left
    intro j _
    show mk (n + c + c * j) = mk (n + c * (j + 1))
    congr 1
    rw [Nat.mul_succ]
    omega

/-- held: each element in turn is what its number tells. -/
theorem held_all {α : Type} {G : Nat → List α → Int → Int → Option Int} (c : Nat) (mk : Nat → α) (d0 : α) (N K : Nat)
    (hG : ∀ (k : Nat) (xs : List α) (n i : Nat), K ≤ k → i < xs.length → xs.length ≤ N → n + c ≤ N → xs.getD i d0 = mk n → G (k + 1) xs (n : Int) (i : Int) = G k xs ((n + c : Nat) : Int) ((i + 1 : Nat) : Int))
    (hE : ∀ k xs n, G (k + 1) xs n (xs.length : Int) = some n) (L n0 : Nat) (hL : L ≤ N) (hN : n0 + c * L ≤ N) :
    ∀ (d i : Nat), i + d = L → ∀ k, K + d < k → G k ((List.range L).map fun j => mk (n0 + c * j)) ((n0 + c * i : Nat) : Int) (i : Int) = some ((n0 + c * L : Nat) : Int)
  | 0, i, hi, k, hk => by
    obtain ⟨k, rfl⟩ : ∃ m, k = m + 1 := ⟨k - 1, by omega⟩
    have e : i = L := by omega
    subst e
    have := hE k ((List.range i).map fun j => mk (n0 + c * j)) ((n0 + c * i : Nat) : Int)
    rwa [List.length_map, List.length_range] at this
  | d + 1, i, hi, k, hk => by
    obtain ⟨k, rfl⟩ : ∃ m, k = m + 1 := ⟨k - 1, by omega⟩
    have hm : c * i + c ≤ c * L := by rw [← Nat.mul_succ]; exact Nat.mul_le_mul_left c (by omega)
    rw [hG k _ (n0 + c * i) i (by omega) (by rw [List.length_map, List.length_range]; omega) (by rw [List.length_map, List.length_range]; exact hL) (by omega) (by
      rw [List.getD_eq_getElem?_getD, List.getElem?_map, List.getElem?_range (by omega)]
      rfl)]
    have := held_all c mk d0 N K hG hE L n0 hL hN d (i + 1) (by omega) k (by omega)
    rwa [show n0 + c * (i + 1) = n0 + c * i + c by rw [Nat.mul_succ]; omega] at this
end Go.Proofs.YtjibadlbiapcmaaDoorX
