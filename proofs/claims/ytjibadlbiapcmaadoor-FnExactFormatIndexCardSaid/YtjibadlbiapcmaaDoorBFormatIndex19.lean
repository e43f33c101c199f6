/- Texts of this claim set one behind another by wip/bundle.py: PXf19, PXf4, XLawFormatIndex. -/
import Derived.Test.YtjibadlbiapcmaaDoorBFormatIndex5
import Derived.Test.YtjibadlbiapcmaaDoorBFormatIndex10
import Derived.Test.YtjibadlbiapcmaaDoorBFormatIndex17
import Derived.Test.YtjibadlbiapcmaaDoorBFormatIndex18
import Derived.Test.YtjibadlbiapcmaaDoorBFormatIndex16
import Derived.Test.YtjibadlbiapcmaaDoorBFormatIndex11
import Derived.Test.YtjibadlbiapcmaaDoorBFormatIndex13
namespace Go.Proofs.YtjibadlbiapcmaaDoor.PX
open Go.RowKit Go.Proofs.YtjibadlbiapcmaaDoorW.PrintWords Go.Proofs.YtjibadlbiapcmaaDoorW.PrintLast Go.Proofs.YtjibadlbiapcmaaDoorW.PrintMore
attribute [local go_sem] max2_int min2_int max_two min_two max_three min_three max_four min_four   -- for this text's walks alone
set_option linter.unusedVariables false
set_option linter.unusedSimpArgs false

/-! ### impl_FormatIndex: function 19 -/
def impl_FormatIndex.f (k : Nat) (l0 : List (S80)) : Option (Int × ByteArray) := (impl_IndexFault.f k l0).bind fun t417 => (if t417 = 0 then ((impl_entriesText.f l0).bind fun t418 => ((impl_sumLine.f k t418).bind fun t419 => (if t418.size + t419.size ≤ 9223372036854775807 then (some (0, t418 ++ t419)) else (none)))) else (some (t417, (⟨#[]⟩ : ByteArray))))
theorem impl_FormatIndex.mono : ∀ a0 k, LeO (impl_FormatIndex.f k a0) (impl_FormatIndex.f (k + 1) a0) := by
 intro a0 k
 unfold impl_FormatIndex.f
 repeat' first
   | (with_reducible exact impl_IndexFault.mono _ _)
   | (with_reducible exact impl_sumLine.mono _ _)
   | (with_reducible exact LeO.refl _)
   | (with_reducible exact LeO.none _)
   | (with_reducible refine LeO.ite ?_ ?_)
   | (with_reducible refine LeO.bind ?_ (fun _ => ?_))
   | exact impl_IndexFault.mono _ _
   | exact impl_sumLine.mono _ _
   | exact LeO.none _
   | refine LeO.ite ?_ ?_
   | refine LeO.bind ?_ (fun _ => ?_)
set_option maxHeartbeats 8000000 in
set_option maxRecDepth 100000 in
theorem impl_FormatIndex.calls (k : Nat) (A0 : Option Addr) (c0 : Nat) (l0 : List (S80)) (r1 : Int) (r2 : ByteArray) (w : World) (hr0 : Kd.C k80 w A0 l0.length l0) (hc0 : l0.length ≤ c0) (hG : Gt w) (h : impl_FormatIndex.f k l0 = some (r1, r2)) :
  Calls Tryd.prog 19 #[.slice A0 l0.length c0] w fun e w' => e = .returned (.agg #[.int .i64 r1, .string r2]) ∧ Below w.heap.size w w' := by
 have HG := zK hG
 clear hG
 have hu36 := Tryd.underlying36
 have HR0 := zK hr0
 have HC0 := zK hc0
 clear hr0 hc0
 have HB := zK (Below.refl w.heap.size w)
 have H : ((impl_IndexFault.f k l0).bind fun t417 => (if t417 = 0 then ((impl_entriesText.f l0).bind fun t418 => ((impl_sumLine.f k t418).bind fun t419 => (if t418.size + t419.size ≤ 9223372036854775807 then (some (0, t418 ++ t419)) else (none)))) else (some (t417, (⟨#[]⟩ : ByteArray))))) = some (r1, r2) := h
 clear h
 replace H := Option.bind_eq_some_iff.mp H
 obtain ⟨t417, A20, H⟩ := H
 replace H : (if t417 = 0 then ((impl_entriesText.f l0).bind fun t418 => ((impl_sumLine.f k t418).bind fun t419 => (if t418.size + t419.size ≤ 9223372036854775807 then (some (0, t418 ++ t419)) else (none)))) else (some (t417, (⟨#[]⟩ : ByteArray)))) = some (r1, r2) := H
 have A2 := zK A20
 clear A20
 by_cases c3 : t417 = 0
 ·
  rw [if_pos c3] at H
  have c3b0 : (t417 == 0) = true := beq_iff_eq.mpr c3
  have c3b1 : (t417 != 0) = false := bne_eq_false_iff_eq.mpr c3
  clear c3
  replace H := Option.bind_eq_some_iff.mp H
  obtain ⟨t418, A40, H⟩ := H
  replace H : ((impl_sumLine.f k t418).bind fun t419 => (if t418.size + t419.size ≤ 9223372036854775807 then (some (0, t418 ++ t419)) else (none))) = some (r1, r2) := H
  have A4 := zK A40
  clear A40
  replace H := Option.bind_eq_some_iff.mp H
  obtain ⟨t419, A50, H⟩ := H
  replace H : (if t418.size + t419.size ≤ 9223372036854775807 then (some (0, t418 ++ t419)) else (none)) = some (r1, r2) := H
  have A5 := zK A50
  clear A50
  by_cases c6 : t418.size + t419.size ≤ 9223372036854775807
  ·
   rw [if_pos c6] at H
   have c6b0 := eq_true c6
   have c6b1 : decide (t418.size + t419.size ≤ 9223372036854775807) = true := decide_eq_true c6
   try have c6b2 : (9223372036854775807 < t418.size + t419.size) = False := eq_false (Nat.not_lt.2 c6)
   simp only [Option.some.injEq, Prod.mk.injEq] at H
   obtain ⟨rfl, rfl⟩ := H
   go_enter Tryd.func19, Tryd.ntmps19
   go_wp2_with (first | ((with_reducible refine gate_dst (N := 2) rfl ?_); refine box_event ?hg (N := 2) ?hd (cs := #[.int .i64 0, .string (⟨#[]⟩ : ByteArray)]) (t := 36) ?hr ?_; (case hd => rfl); (case hg => rfl); (case hr => first | (go_simp; done) | (go_simp; rfl)); intro gb416 hg w7 hbox hb; have n0_ := zK (below_step (by repeat (first | (with_reducible first | exact HB.out | apply zA | apply zN | apply zD) | exact HB.out)) hb); have n1_ := zK (hbox); have n2_ := zK ((by rw [hg]; exact (below_size (by repeat (first | (with_reducible first | exact HB.out | apply zA | apply zN | apply zD) | exact HB.out))) : w.heap.size ≤ gb416)); have n3_ := zK ((by rw [hg]; exact (below_size (by repeat (first | (with_reducible first | exact HB.out | apply zA | apply zN | apply zD) | exact HB.out))) : w.heap.size ≤ gb416)); clear HB; have HB := n0_; have BK416 := n1_; have GW416 := n2_; have GE416 := n3_; clear n0_ n1_ n2_ n3_; clear hb hbox hg) | ((with_reducible refine gate_callee (f := 54) rfl ?_); refine goesL_ (some 6) rfl rfl Tryd.func54 (by kernel_rfl) rfl #[.slice A0 l0.length c0] rfl (by (try simp only [List.map_toArray, List.map_cons, List.map_nil]); first | done | rfl | (simp only [List.length_drop, List.length_take]; rfl)) ?_; (with_reducible refine (impl_IndexFault.calls k _ _ l0 t417 _ ?side1 ?side2 A2.out).mono ?_); (case side1 => repeat (first | exact (Kd.C_below HR0.out HB.out) | (with_reducible refine Kd.C_alloc ?_ _) | (with_reducible refine Kd.C_drewN ?_ _) | (with_reducible refine Kd.C_drew ?_))); (case side2 => exact HC0.out); rintro e w8 ⟨rfl, hb⟩; refine ⟨_, rfl, ?_⟩; have n0_ := zK (blk_below (g := gb416) (o := .cells #[.int .i64 0, .string (⟨#[]⟩ : ByteArray)] 36 (0, 0)) (by (with_reducible repeat (first | refine zM ?_ _ | refine zP ?_ | refine zQ ?_ _)); exact BK416.out) hb); have n1_ := zK (below_step (by repeat (first | (with_reducible first | exact HB.out | apply zA | apply zN | apply zD | refine below_set ?_ GE416.out) | exact HB.out)) hb); clear BK416; clear HB; have BK416 := n0_; have HB := n1_; clear n0_ n1_; (try clear hb); (try clear hb2); (try clear hk); (try clear hi)) | ((with_reducible refine gate_callee (f := 63) rfl ?_); refine goesL_ (some 12) rfl rfl Tryd.func63 (by kernel_rfl) rfl #[.slice A0 l0.length c0] rfl (by (try simp only [List.map_toArray, List.map_cons, List.map_nil]); first | done | rfl | (simp only [List.length_drop, List.length_take]; rfl)) ?_; (with_reducible refine (impl_entriesText.calls _ _ l0 t418 _ ?side1 ?side2 (Gt.below HG.out (by repeat (first | (with_reducible first | exact HB.out | apply zA | apply zN | apply zD | refine below_set ?_ GE416.out) | exact HB.out))) A4.out).mono ?_); (case side1 => repeat (first | exact (Kd.C_below HR0.out HB.out) | (with_reducible refine Kd.C_alloc ?_ _) | (with_reducible refine Kd.C_drewN ?_ _) | (with_reducible refine Kd.C_drew ?_))); (case side2 => exact HC0.out); rintro e w9 ⟨rfl, hb⟩; refine ⟨_, rfl, ?_⟩; have n0_ := zK (blk_below (g := gb416) (o := .cells #[.int .i64 0, .string (⟨#[]⟩ : ByteArray)] 36 (0, 0)) (by (with_reducible repeat (first | refine zM ?_ _ | refine zP ?_ | refine zQ ?_ _)); exact BK416.out) hb); have n1_ := zK (below_step (by repeat (first | (with_reducible first | exact HB.out | apply zA | apply zN | apply zD | refine below_set ?_ GE416.out) | exact HB.out)) hb); clear BK416; clear HB; have BK416 := n0_; have HB := n1_; clear n0_ n1_; (try clear hb); (try clear hb2); (try clear hk); (try clear hi)) | ((with_reducible refine gate_callee (f := 64) rfl ?_); refine goesL_ (some 15) rfl rfl Tryd.func64 (by kernel_rfl) rfl #[.string t418] rfl (by (try simp only [List.map_toArray, List.map_cons, List.map_nil]); first | done | rfl | (simp only [List.length_drop, List.length_take]; rfl)) ?_; (with_reducible refine (impl_sumLine.calls k t418 t419 _ (Gt.below HG.out (by repeat (first | (with_reducible first | exact HB.out | apply zA | apply zN | apply zD | refine below_set ?_ GE416.out) | exact HB.out))) A5.out).mono ?_); rintro e w10 ⟨rfl, hb⟩; refine ⟨_, rfl, ?_⟩; have n0_ := zK (blk_below (g := gb416) (o := .cells #[.int .i64 0, .string (⟨#[]⟩ : ByteArray)] 36 (0, 0)) (by (with_reducible repeat (first | refine zM ?_ _ | refine zP ?_ | refine zQ ?_ _)); exact BK416.out) hb); have n1_ := zK (below_step (by repeat (first | (with_reducible first | exact HB.out | apply zA | apply zN | apply zD | refine below_set ?_ GE416.out) | exact HB.out)) hb); clear BK416; clear HB; have BK416 := n0_; have HB := n1_; clear n0_ n1_; (try clear hb); (try clear hb2); (try clear hk); (try clear hi); have hcz11_0 : w10.cell? ⟨gb416, 0, none⟩ = some (.int .i64 0) := (blk_cell BK416.out 0).trans rfl; have hcz11_1 : w10.cell? ⟨gb416, 1, none⟩ = some (.string (⟨#[]⟩ : ByteArray)) := (blk_cell BK416.out 1).trans rfl; have hfz11_0 := blk_frozen BK416.out 0; have hfz11_1 := blk_frozen BK416.out 1))
   refine bodyPost_ret (results_cell_row rfl _ _ gb416 36 #[.int .i64 0, .string (t418 ++ t419)] (0, 0) _ rfl (by (with_reducible repeat (first | refine zM ?_ _ | refine zP ?_ | refine zQ ?_ _)); refine blk_put (cs := #[.int .i64 0, .string (⟨#[]⟩ : ByteArray)]) ?_ 1 _ rfl; (with_reducible repeat (first | refine zM ?_ _ | refine zP ?_ | refine zQ ?_ _)); refine blk_put (cs := #[.int .i64 0, .string (⟨#[]⟩ : ByteArray)]) ?_ 0 _ rfl; (with_reducible repeat (first | refine zM ?_ _ | refine zP ?_ | refine zQ ?_ _)); exact BK416.out) Tryd.underlying36 rfl (by kernel_rfl)) rfl ?_
   exact ⟨by first | rfl | (simp [errW_none, errW_some] <;> rfl) | (simp [*, errW_none, errW_some] <;> rfl), by repeat (first | (with_reducible first | exact HB.out | apply zA | apply zN | apply zD | refine below_set ?_ GE416.out) | exact HB.out)⟩
  ·
   rw [if_neg c6] at H
   exact absurd H (by simp)
 ·
  rw [if_neg c3] at H
  have c3b0 : (t417 == 0) = false := beq_eq_false_iff_ne.mpr c3
  have c3b1 : (t417 != 0) = true := bne_iff_ne.mpr c3
  simp only [Option.some.injEq, Prod.mk.injEq] at H
  obtain ⟨rfl, rfl⟩ := H
  go_enter Tryd.func19, Tryd.ntmps19
  go_wp2_with (first | ((with_reducible refine gate_dst (N := 2) rfl ?_); refine box_event ?hg (N := 2) ?hd (cs := #[.int .i64 0, .string (⟨#[]⟩ : ByteArray)]) (t := 36) ?hr ?_; (case hd => rfl); (case hg => rfl); (case hr => first | (go_simp; done) | (go_simp; rfl)); intro gb416 hg w12 hbox hb; have n0_ := zK (below_step (by repeat (first | (with_reducible first | exact HB.out | apply zA | apply zN | apply zD) | exact HB.out)) hb); have n1_ := zK (hbox); have n2_ := zK ((by rw [hg]; exact (below_size (by repeat (first | (with_reducible first | exact HB.out | apply zA | apply zN | apply zD) | exact HB.out))) : w.heap.size ≤ gb416)); have n3_ := zK ((by rw [hg]; exact (below_size (by repeat (first | (with_reducible first | exact HB.out | apply zA | apply zN | apply zD) | exact HB.out))) : w.heap.size ≤ gb416)); clear HB; have HB := n0_; have BK416 := n1_; have GW416 := n2_; have GE416 := n3_; clear n0_ n1_ n2_ n3_; clear hb hbox hg) | ((with_reducible refine gate_callee (f := 54) rfl ?_); refine goesL_ (some 6) rfl rfl Tryd.func54 (by kernel_rfl) rfl #[.slice A0 l0.length c0] rfl (by (try simp only [List.map_toArray, List.map_cons, List.map_nil]); first | done | rfl | (simp only [List.length_drop, List.length_take]; rfl)) ?_; (with_reducible refine (impl_IndexFault.calls k _ _ l0 t417 _ ?side1 ?side2 A2.out).mono ?_); (case side1 => repeat (first | exact (Kd.C_below HR0.out HB.out) | (with_reducible refine Kd.C_alloc ?_ _) | (with_reducible refine Kd.C_drewN ?_ _) | (with_reducible refine Kd.C_drew ?_))); (case side2 => exact HC0.out); rintro e w13 ⟨rfl, hb⟩; refine ⟨_, rfl, ?_⟩; have n0_ := zK (blk_below (g := gb416) (o := .cells #[.int .i64 0, .string (⟨#[]⟩ : ByteArray)] 36 (0, 0)) (by (with_reducible repeat (first | refine zM ?_ _ | refine zP ?_ | refine zQ ?_ _)); exact BK416.out) hb); have n1_ := zK (below_step (by repeat (first | (with_reducible first | exact HB.out | apply zA | apply zN | apply zD | refine below_set ?_ GE416.out) | exact HB.out)) hb); clear BK416; clear HB; have BK416 := n0_; have HB := n1_; clear n0_ n1_; (try clear hb); (try clear hb2); (try clear hk); (try clear hi); have hcz14_0 : w13.cell? ⟨gb416, 0, none⟩ = some (.int .i64 0) := (blk_cell BK416.out 0).trans rfl; have hcz14_1 : w13.cell? ⟨gb416, 1, none⟩ = some (.string (⟨#[]⟩ : ByteArray)) := (blk_cell BK416.out 1).trans rfl; have hfz14_0 := blk_frozen BK416.out 0; have hfz14_1 := blk_frozen BK416.out 1))
  refine bodyPost_ret (results_cell_row rfl _ _ gb416 36 #[.int .i64 t417, .string (⟨#[]⟩ : ByteArray)] (0, 0) _ rfl (by (with_reducible repeat (first | refine zM ?_ _ | refine zP ?_ | refine zQ ?_ _)); refine blk_put (cs := #[.int .i64 t417, .string (⟨#[]⟩ : ByteArray)]) ?_ 1 _ rfl; (with_reducible repeat (first | refine zM ?_ _ | refine zP ?_ | refine zQ ?_ _)); refine blk_put (cs := #[.int .i64 0, .string (⟨#[]⟩ : ByteArray)]) ?_ 0 _ rfl; (with_reducible repeat (first | refine zM ?_ _ | refine zP ?_ | refine zQ ?_ _)); exact BK416.out) Tryd.underlying36 rfl (by kernel_rfl)) rfl ?_
  exact ⟨by first | rfl | (simp [errW_none, errW_some] <;> rfl) | (simp [*, errW_none, errW_some] <;> rfl), by repeat (first | (with_reducible first | exact HB.out | apply zA | apply zN | apply zD | refine below_set ?_ GE416.out) | exact HB.out)⟩


/-! ### laws_FnExactFormatIndex: function 4 -/
def laws_FnExactFormatIndex.f (k : Nat) (l0 : List (S74)) : Option (Bool) := (laws_szEntryS.f k l0 1048576).bind fun t422 => (if t422 < 0 then (some true) else ((laws_toEntryS.f k l0).bind fun t423 => ((spec_FormatIndex.f k t423).bind fun bt426 => ((laws_toEntryS.f k l0).bind fun t429 => ((impl_FormatIndex.f k t429).bind fun bt432 => ((laws_eqTextResult.f bt432.1 bt432.2 bt426.1 bt426.2).bind fun t435 => (if t435 = true then ((laws_toEntryS.f k l0).bind fun t436 => ((laws_eqEntryS.f k t429 t436).bind fun t439 => (if t439 = true then (some true) else (some false)))) else (some false))))))))
theorem laws_FnExactFormatIndex.mono : ∀ a0 k, LeO (laws_FnExactFormatIndex.f k a0) (laws_FnExactFormatIndex.f (k + 1) a0) := by
 intro a0 k
 unfold laws_FnExactFormatIndex.f
 repeat' first
   | (with_reducible exact impl_FormatIndex.mono _ _)
   | (with_reducible exact laws_eqEntryS.mono _ _ _)
   | (with_reducible exact laws_szEntryS.mono _ _ _)
   | (with_reducible exact laws_toEntryS.mono _ _)
   | (with_reducible exact spec_FormatIndex.mono _ _)
   | (with_reducible exact LeO.refl _)
   | (with_reducible exact LeO.none _)
   | (with_reducible refine LeO.ite ?_ ?_)
   | (with_reducible refine LeO.bind ?_ (fun _ => ?_))
   | exact impl_FormatIndex.mono _ _
   | exact laws_eqEntryS.mono _ _ _
   | exact laws_szEntryS.mono _ _ _
   | exact laws_toEntryS.mono _ _
   | exact spec_FormatIndex.mono _ _
   | exact LeO.none _
   | refine LeO.ite ?_ ?_
   | refine LeO.bind ?_ (fun _ => ?_)
set_option maxHeartbeats 8000000 in
set_option maxRecDepth 100000 in
theorem laws_FnExactFormatIndex.calls (k : Nat) (A0 : Option Addr) (c0 : Nat) (l0 : List (S74)) (r : Bool) (w : World) (hr0 : Kd.C k74 w A0 l0.length l0) (hc0 : l0.length ≤ c0) (hG : Gt w) (h : laws_FnExactFormatIndex.f k l0 = some r) (hT_ : r = true := by rfl) :
  Calls Tryd.prog 4 #[.slice A0 l0.length c0] w fun e w' => e = .returned (.bool r) ∧ Below w.heap.size w w' := by
 have HG := zK hG
 clear hG
 have hu36 := Tryd.underlying36
 have HR0 := zK hr0
 have HC0 := zK hc0
 clear hr0 hc0
 have HB := zK (Below.refl w.heap.size w)
 have H : ((laws_szEntryS.f k l0 1048576).bind fun t422 => (if t422 < 0 then (some true) else ((laws_toEntryS.f k l0).bind fun t423 => ((spec_FormatIndex.f k t423).bind fun bt426 => ((laws_toEntryS.f k l0).bind fun t429 => ((impl_FormatIndex.f k t429).bind fun bt432 => ((laws_eqTextResult.f bt432.1 bt432.2 bt426.1 bt426.2).bind fun t435 => (if t435 = true then ((laws_toEntryS.f k l0).bind fun t436 => ((laws_eqEntryS.f k t429 t436).bind fun t439 => (if t439 = true then (some true) else (some false)))) else (some false))))))))) = some r := h
 clear h
 replace H := Option.bind_eq_some_iff.mp H
 obtain ⟨t422, A20, H⟩ := H
 replace H : (if t422 < 0 then (some true) else ((laws_toEntryS.f k l0).bind fun t423 => ((spec_FormatIndex.f k t423).bind fun bt426 => ((laws_toEntryS.f k l0).bind fun t429 => ((impl_FormatIndex.f k t429).bind fun bt432 => ((laws_eqTextResult.f bt432.1 bt432.2 bt426.1 bt426.2).bind fun t435 => (if t435 = true then ((laws_toEntryS.f k l0).bind fun t436 => ((laws_eqEntryS.f k t429 t436).bind fun t439 => (if t439 = true then (some true) else (some false)))) else (some false)))))))) = some r := H
 have A2 := zK A20
 clear A20
 by_cases c3 : t422 < 0
 ·
  rw [if_pos c3] at H
  have c3b0 : decide (t422 < 0) = true := decide_eq_true c3
  clear c3
  obtain rfl := Option.some.inj H
  go_enter Tryd.func4, Tryd.ntmps4
  go_wp2_with (first | ((with_reducible refine gate_callee (f := 9) rfl ?_); refine goesL_ (some 9) rfl rfl Tryd.func9 (by kernel_rfl) rfl #[.slice A0 l0.length c0, .int .i64 1048576] rfl (by (try simp only [List.map_toArray, List.map_cons, List.map_nil]); first | done | rfl | (simp only [List.length_drop, List.length_take]; rfl)) ?_; (with_reducible refine (laws_szEntryS.calls k _ _ l0 1048576 t422 _ ?side1 ?side2 A2.out).mono ?_); (case side1 => repeat (first | exact HR0.out | (with_reducible refine Kd.C_alloc ?_ _) | (with_reducible refine Kd.C_drewN ?_ _) | (with_reducible refine Kd.C_drew ?_))); (case side2 => exact HC0.out); rintro e w4 ⟨rfl, hb⟩; refine ⟨_, rfl, ?_⟩; have n0_ := zK (below_step (by repeat (first | (with_reducible first | exact HB.out | apply zA | apply zN | apply zD) | exact HB.out)) hb); clear HB; have HB := n0_; clear n0_; (try clear hb); (try clear hb2); (try clear hk); (try clear hi)))
  go_ret
  exact ⟨by first | rfl | (simp [errW_none, errW_some] <;> rfl) | (simp [*, errW_none, errW_some] <;> rfl), by repeat (first | (with_reducible first | exact HB.out | apply zA | apply zN | apply zD) | exact HB.out)⟩
 ·
  rw [if_neg c3] at H
  have c3b0 : decide (t422 < 0) = false := decide_eq_false c3
  clear c3
  replace H := Option.bind_eq_some_iff.mp H
  obtain ⟨t423, A50, H⟩ := H
  replace H : ((spec_FormatIndex.f k t423).bind fun bt426 => ((laws_toEntryS.f k l0).bind fun t429 => ((impl_FormatIndex.f k t429).bind fun bt432 => ((laws_eqTextResult.f bt432.1 bt432.2 bt426.1 bt426.2).bind fun t435 => (if t435 = true then ((laws_toEntryS.f k l0).bind fun t436 => ((laws_eqEntryS.f k t429 t436).bind fun t439 => (if t439 = true then (some true) else (some false)))) else (some false)))))) = some r := H
  have A5 := zK A50
  clear A50
  replace H := Option.bind_eq_some_iff.mp H
  obtain ⟨⟨t426, t427⟩, A60, H⟩ := H
  replace H : ((laws_toEntryS.f k l0).bind fun t429 => ((impl_FormatIndex.f k t429).bind fun bt432 => ((laws_eqTextResult.f bt432.1 bt432.2 t426 t427).bind fun t435 => (if t435 = true then ((laws_toEntryS.f k l0).bind fun t436 => ((laws_eqEntryS.f k t429 t436).bind fun t439 => (if t439 = true then (some true) else (some false)))) else (some false))))) = some r := H
  have A6 := zK A60
  clear A60
  replace H := Option.bind_eq_some_iff.mp H
  obtain ⟨t429, A70, H⟩ := H
  replace H : ((impl_FormatIndex.f k t429).bind fun bt432 => ((laws_eqTextResult.f bt432.1 bt432.2 t426 t427).bind fun t435 => (if t435 = true then ((laws_toEntryS.f k l0).bind fun t436 => ((laws_eqEntryS.f k t429 t436).bind fun t439 => (if t439 = true then (some true) else (some false)))) else (some false)))) = some r := H
  have A7 := zK A70
  clear A70
  replace H := Option.bind_eq_some_iff.mp H
  obtain ⟨⟨t432, t433⟩, A80, H⟩ := H
  replace H : ((laws_eqTextResult.f t432 t433 t426 t427).bind fun t435 => (if t435 = true then ((laws_toEntryS.f k l0).bind fun t436 => ((laws_eqEntryS.f k t429 t436).bind fun t439 => (if t439 = true then (some true) else (some false)))) else (some false))) = some r := H
  have A8 := zK A80
  clear A80
  replace H := Option.bind_eq_some_iff.mp H
  obtain ⟨t435, A90, H⟩ := H
  replace H : (if t435 = true then ((laws_toEntryS.f k l0).bind fun t436 => ((laws_eqEntryS.f k t429 t436).bind fun t439 => (if t439 = true then (some true) else (some false)))) else (some false)) = some r := H
  have A9 := zK A90
  clear A90
  by_cases c10 : t435 = true
  ·
   subst c10
   have H1 : ((laws_toEntryS.f k l0).bind fun t436 => ((laws_eqEntryS.f k t429 t436).bind fun t439 => (if t439 = true then (some true) else (some false)))) = some r := by rw [if_pos rfl] at H; exact H
   clear H
   have H := H1
   clear H1
   replace H := Option.bind_eq_some_iff.mp H
   obtain ⟨t436, A110, H⟩ := H
   replace H : ((laws_eqEntryS.f k t429 t436).bind fun t439 => (if t439 = true then (some true) else (some false))) = some r := H
   have A11 := zK A110
   clear A110
   replace H := Option.bind_eq_some_iff.mp H
   obtain ⟨t439, A120, H⟩ := H
   replace H : (if t439 = true then (some true) else (some false)) = some r := H
   have A12 := zK A120
   clear A120
   by_cases c13 : t439 = true
   ·
    subst c13
    have H1 : (some true) = some r := by rw [if_pos rfl] at H; exact H
    clear H
    have H := H1
    clear H1
    obtain rfl := Option.some.inj H
    go_enter Tryd.func4, Tryd.ntmps4
    go_wp2_with (first | ((with_reducible refine gate_callee (f := 9) rfl ?_); refine goesL_ (some 9) rfl rfl Tryd.func9 (by kernel_rfl) rfl #[.slice A0 l0.length c0, .int .i64 1048576] rfl (by (try simp only [List.map_toArray, List.map_cons, List.map_nil]); first | done | rfl | (simp only [List.length_drop, List.length_take]; rfl)) ?_; (with_reducible refine (laws_szEntryS.calls k _ _ l0 1048576 t422 _ ?side1 ?side2 A2.out).mono ?_); (case side1 => repeat (first | exact HR0.out | (with_reducible refine Kd.C_alloc ?_ _) | (with_reducible refine Kd.C_drewN ?_ _) | (with_reducible refine Kd.C_drew ?_))); (case side2 => exact HC0.out); rintro e w14 ⟨rfl, hb⟩; refine ⟨_, rfl, ?_⟩; have n0_ := zK (below_step (by repeat (first | (with_reducible first | exact HB.out | apply zA | apply zN | apply zD) | exact HB.out)) hb); clear HB; have HB := n0_; clear n0_; (try clear hb); (try clear hb2); (try clear hk); (try clear hi)) | ((with_reducible refine gate_callee (f := 11) rfl ?_); refine goesL_ (some 13) rfl rfl Tryd.func11 (by kernel_rfl) rfl #[.slice A0 l0.length c0] rfl (by (try simp only [List.map_toArray, List.map_cons, List.map_nil]); first | done | rfl | (simp only [List.length_drop, List.length_take]; rfl)) ?_; (with_reducible refine (laws_toEntryS.calls k _ _ l0 t423 _ ?side1 ?side2 A5.out).mono ?_); (case side1 => repeat (first | exact (Kd.C_below HR0.out HB.out) | (with_reducible refine Kd.C_alloc ?_ _) | (with_reducible refine Kd.C_drewN ?_ _) | (with_reducible refine Kd.C_drew ?_))); (case side2 => exact HC0.out); rintro e w15 ⟨v424, rfl, ho0, hb⟩; refine ⟨_, rfl, ?_⟩; have n0_ := zK (Kd.R_lower ho0 (below_size (by repeat (first | (with_reducible first | exact HB.out | apply zA | apply zN | apply zD) | exact HB.out)))); have n1_ := zK (below_step (by repeat (first | (with_reducible first | exact HB.out | apply zA | apply zN | apply zD) | exact HB.out)) hb); clear HB; have HO425 := n0_; have HB := n1_; clear n0_ n1_; (try clear hb); (try clear hb2); (try clear hk); (try clear hi); (try clear ho0); obtain ⟨Ao16, co16, eo16⟩ := Kd.R_slice HO425.out; subst eo16) | ((with_reducible refine gate_callee (f := 18) rfl ?_); refine goesL_ (some 14) rfl rfl Tryd.func18 (by kernel_rfl) rfl #[.slice Ao16 t423.length co16] rfl (by (try simp only [List.map_toArray, List.map_cons, List.map_nil]); first | done | rfl | (simp only [List.length_drop, List.length_take]; rfl)) ?_; (with_reducible refine (spec_FormatIndex.calls k _ _ t423 t426 t427 _ ?side1 ?side2 A6.out).mono ?_); (case side1 => repeat (first | exact (Kd.R_reads' HO425.out).2.2 | (with_reducible refine Kd.C_alloc ?_ _) | (with_reducible refine Kd.C_drewN ?_ _) | (with_reducible refine Kd.C_drew ?_))); (case side2 => exact (Kd.R_reads' HO425.out).2.1); rintro e w17 ⟨rfl, hb⟩; refine ⟨_, rfl, ?_⟩; have n0_ := zK (Kd.R_below (by (with_reducible repeat (first | apply zR | apply zV | apply zW)); exact HO425.out) hb); have n1_ := zK (below_step (by repeat (first | (with_reducible first | exact HB.out | apply zA | apply zN | apply zD) | exact HB.out)) hb); clear HO425; clear HB; have HO425 := n0_; have HB := n1_; clear n0_ n1_; (try clear hb); (try clear hb2); (try clear hk); (try clear hi)) | ((with_reducible refine gate_dst (N := 4) rfl ?_); refine box_event ?hg (N := 4) ?hd (cs := #[.int .i64 0, .string (⟨#[]⟩ : ByteArray)]) (t := 36) ?hr ?_; (case hd => rfl); (case hg => rfl); (case hr => first | (go_simp; done) | (go_simp; rfl)); intro gb428 hg w18 hbox hb; have n0_ := zK (Kd.R_below (by (with_reducible repeat (first | apply zR | apply zV | apply zW)); exact HO425.out) hb); have n1_ := zK (below_step (by repeat (first | (with_reducible first | exact HB.out | apply zA | apply zN | apply zD) | exact HB.out)) hb); have n2_ := zK (hbox); have n3_ := zK ((by rw [hg]; exact (below_size (by repeat (first | (with_reducible first | exact HB.out | apply zA | apply zN | apply zD) | exact HB.out))) : w.heap.size ≤ gb428)); have n4_ := zK ((by rw [hg]; exact (below_size (by repeat (first | (with_reducible first | exact HB.out | apply zA | apply zN | apply zD) | exact HB.out))) : w.heap.size ≤ gb428)); clear HO425; clear HB; have HO425 := n0_; have HB := n1_; have BK428 := n2_; have GW428 := n3_; have GE428 := n4_; clear n0_ n1_ n2_ n3_ n4_; clear hb hbox hg; have hcz19_0 : w18.cell? ⟨gb428, 0, none⟩ = some (.int .i64 0) := (blk_cell BK428.out 0).trans rfl; have hcz19_1 : w18.cell? ⟨gb428, 1, none⟩ = some (.string (⟨#[]⟩ : ByteArray)) := (blk_cell BK428.out 1).trans rfl; have hfz19_0 := blk_frozen BK428.out 0; have hfz19_1 := blk_frozen BK428.out 1) | ((with_reducible refine gate_callee (f := 11) rfl ?_); refine goesL_ (some 16) rfl rfl Tryd.func11 (by kernel_rfl) rfl #[.slice A0 l0.length c0] rfl (by (try simp only [List.map_toArray, List.map_cons, List.map_nil]); first | done | rfl | (simp only [List.length_drop, List.length_take]; rfl)) ?_; (with_reducible refine (laws_toEntryS.calls k _ _ l0 t429 _ ?side1 ?side2 A7.out).mono ?_); (case side1 => exact Kd.C_below HR0.out (by repeat (first | (with_reducible first | exact HB.out | apply zA | apply zN | apply zD | refine below_set ?_ GE428.out) | exact HB.out))); (case side2 => exact HC0.out); rintro e w20 ⟨v430, rfl, ho0, hb⟩; refine ⟨_, rfl, ?_⟩; have n0_ := zK (Kd.R_elder' (by (with_reducible repeat (first | apply zR | apply zV | apply zW)); exact (Kd.R_mono (Kd.R_far (p := ⟨gb428, 1, none⟩) (Kd.R_far (p := ⟨gb428, 0, none⟩) (Kd.R_types HO425.out BK428.out (by decide)) (fun _ hk => hk.2) (.int .i64 t426)) (fun _ hk => hk.2) (.string t427)) (fun _ h_ => h_.1))) (Kd.R_base ho0) hb); have n1_ := zK (Kd.R_lower (Kd.R_new' ho0 (Kd.R_lt (by (with_reducible repeat (first | apply zR | apply zV | apply zW)); exact (Kd.R_mono (Kd.R_far (p := ⟨gb428, 1, none⟩) (Kd.R_far (p := ⟨gb428, 0, none⟩) (Kd.R_types HO425.out BK428.out (by decide)) (fun _ hk => hk.2) (.int .i64 t426)) (fun _ hk => hk.2) (.string t427)) (fun _ h_ => h_.1))))) (below_size (by repeat (first | (with_reducible first | exact HB.out | apply zA | apply zN | apply zD | refine below_set ?_ GE428.out) | exact HB.out)))); have n2_ := zK (blk_below (g := gb428) (o := .cells #[.int .i64 t426, .string t427] 36 (0, 0)) (by (with_reducible repeat (first | refine zM ?_ _ | refine zP ?_ | refine zQ ?_ _)); refine blk_put (cs := #[.int .i64 t426, .string (⟨#[]⟩ : ByteArray)]) ?_ 1 _ rfl; (with_reducible repeat (first | refine zM ?_ _ | refine zP ?_ | refine zQ ?_ _)); refine blk_put (cs := #[.int .i64 0, .string (⟨#[]⟩ : ByteArray)]) ?_ 0 _ rfl; (with_reducible repeat (first | refine zM ?_ _ | refine zP ?_ | refine zQ ?_ _)); exact BK428.out) hb); have n3_ := zK (below_step (by repeat (first | (with_reducible first | exact HB.out | apply zA | apply zN | apply zD | refine below_set ?_ GE428.out) | exact HB.out)) hb); clear HO425; clear BK428; clear HB; have HO425 := n0_; have HO431 := n1_; have BK428 := n2_; have HB := n3_; clear n0_ n1_ n2_ n3_; (try clear hb); (try clear hb2); (try clear hk); (try clear hi); (try clear ho0); obtain ⟨Ao21, co21, eo21⟩ := Kd.R_slice HO431.out; subst eo21) | ((with_reducible refine gate_callee (f := 19) rfl ?_); refine goesL_ (some 18) rfl rfl Tryd.func19 (by kernel_rfl) rfl #[.slice Ao21 t429.length co21] rfl (by (try simp only [List.map_toArray, List.map_cons, List.map_nil]); first | done | rfl | (simp only [List.length_drop, List.length_take]; rfl)) ?_; (with_reducible refine (impl_FormatIndex.calls k _ _ t429 t432 t433 _ ?side1 ?side2 (Gt.below HG.out (by repeat (first | (with_reducible first | exact HB.out | apply zA | apply zN | apply zD | refine below_set ?_ GE428.out) | exact HB.out))) A8.out).mono ?_); (case side1 => repeat (first | exact (Kd.R_reads' HO431.out).2.2 | (with_reducible refine Kd.C_alloc ?_ _) | (with_reducible refine Kd.C_drewN ?_ _) | (with_reducible refine Kd.C_drew ?_))); (case side2 => exact (Kd.R_reads' HO431.out).2.1); rintro e w22 ⟨rfl, hb⟩; refine ⟨_, rfl, ?_⟩; have n0_ := zK (Kd.R_below (by (with_reducible repeat (first | apply zR | apply zV | apply zW)); exact HO425.out) hb); have n1_ := zK (Kd.R_below (by (with_reducible repeat (first | apply zR | apply zV | apply zW)); exact HO431.out) hb); have n2_ := zK (blk_below (g := gb428) (o := .cells #[.int .i64 t426, .string t427] 36 (0, 0)) (by (with_reducible repeat (first | refine zM ?_ _ | refine zP ?_ | refine zQ ?_ _)); exact BK428.out) hb); have n3_ := zK (below_step (by repeat (first | (with_reducible first | exact HB.out | apply zA | apply zN | apply zD | refine below_set ?_ GE428.out) | exact HB.out)) hb); clear HO425; clear HO431; clear BK428; clear HB; have HO425 := n0_; have HO431 := n1_; have BK428 := n2_; have HB := n3_; clear n0_ n1_ n2_ n3_; (try clear hb); (try clear hb2); (try clear hk); (try clear hi)) | ((with_reducible refine gate_dst (N := 6) rfl ?_); refine box_event ?hg (N := 6) ?hd (cs := #[.int .i64 0, .string (⟨#[]⟩ : ByteArray)]) (t := 36) ?hr ?_; (case hd => rfl); (case hg => rfl); (case hr => first | (go_simp; done) | (go_simp; rfl)); intro gb434 hg w23 hbox hb; have n0_ := zK (Kd.R_below (by (with_reducible repeat (first | apply zR | apply zV | apply zW)); exact HO425.out) hb); have n1_ := zK (Kd.R_below (by (with_reducible repeat (first | apply zR | apply zV | apply zW)); exact HO431.out) hb); have n2_ := zK (blk_below (g := gb428) (o := .cells #[.int .i64 t426, .string t427] 36 (0, 0)) (by (with_reducible repeat (first | refine zM ?_ _ | refine zP ?_ | refine zQ ?_ _)); exact BK428.out) hb); have n3_ := zK (below_step (by repeat (first | (with_reducible first | exact HB.out | apply zA | apply zN | apply zD | refine below_set ?_ GE428.out) | exact HB.out)) hb); have n4_ := zK (hbox); have n5_ := zK ((by rw [hg]; exact (below_size (by repeat (first | (with_reducible first | exact HB.out | apply zA | apply zN | apply zD | refine below_set ?_ GE428.out) | exact HB.out))) : w.heap.size ≤ gb434)); have n6_ := zK ((by rw [hg]; exact (below_size (by repeat (first | (with_reducible first | exact HB.out | apply zA | apply zN | apply zD | refine below_set ?_ GE428.out) | exact HB.out))) : w.heap.size ≤ gb434)); have n7_ := zK ((by rw [hg]; exact Nat.ne_of_lt (blk_lt (g := gb428) (o := .cells #[.int .i64 t426, .string t427] 36 (0, 0)) (by (with_reducible repeat (first | refine zM ?_ _ | refine zP ?_ | refine zQ ?_ _)); exact BK428.out)) : gb428 ≠ gb434)); have n8_ := zK ((by rw [hg]; exact Nat.ne_of_gt (blk_lt (g := gb428) (o := .cells #[.int .i64 t426, .string t427] 36 (0, 0)) (by (with_reducible repeat (first | refine zM ?_ _ | refine zP ?_ | refine zQ ?_ _)); exact BK428.out)) : gb434 ≠ gb428)); clear HO425; clear HO431; clear BK428; clear HB; have HO425 := n0_; have HO431 := n1_; have BK428 := n2_; have HB := n3_; have BK434 := n4_; have GW434 := n5_; have GE434 := n6_; have NB428_434 := n7_; have NB434_428 := n8_; clear n0_ n1_ n2_ n3_ n4_ n5_ n6_ n7_ n8_; clear hb hbox hg; have hnb24 := NB434_428.out; have hnc24 := NB428_434.out; have hcz25_0 : w23.cell? ⟨gb434, 0, none⟩ = some (.int .i64 0) := (blk_cell BK434.out 0).trans rfl; have hcz25_1 : w23.cell? ⟨gb434, 1, none⟩ = some (.string (⟨#[]⟩ : ByteArray)) := (blk_cell BK434.out 1).trans rfl; have hfz25_0 := blk_frozen BK434.out 0; have hfz25_1 := blk_frozen BK434.out 1; have hcz26_0 : w23.cell? ⟨gb428, 0, none⟩ = some (.int .i64 t426) := (blk_cell BK428.out 0).trans rfl; have hcz26_1 : w23.cell? ⟨gb428, 1, none⟩ = some (.string t427) := (blk_cell BK428.out 1).trans rfl; have hfz26_0 := blk_frozen BK428.out 0; have hfz26_1 := blk_frozen BK428.out 1) | ((with_reducible refine gate_callee (f := 20) rfl ?_); refine goesL_ (some 21) rfl rfl Tryd.func20 (by kernel_rfl) rfl #[.agg #[.int .i64 t432, .string t433], .agg #[.int .i64 t426, .string t427]] rfl (by (try simp only [List.map_toArray, List.map_cons, List.map_nil]); first | done | rfl | (simp only [List.length_drop, List.length_take]; rfl)) ?_; (with_reducible refine (laws_eqTextResult.calls t432 t433 t426 t427 true _ A9.out).mono ?_); rintro e w27 ⟨rfl, hb⟩; refine ⟨_, rfl, ?_⟩; have n0_ := zK (Kd.R_below (by (with_reducible repeat (first | apply zR | apply zV | apply zW)); exact (Kd.R_mono (Kd.R_far (p := ⟨gb434, 1, none⟩) (Kd.R_far (p := ⟨gb434, 0, none⟩) (Kd.R_types HO425.out BK434.out (by decide)) (fun _ hk => hk.2) (.int .i64 t432)) (fun _ hk => hk.2) (.string t433)) (fun _ h_ => h_.1))) hb); have n1_ := zK (Kd.R_below (by (with_reducible repeat (first | apply zR | apply zV | apply zW)); exact (Kd.R_mono (Kd.R_far (p := ⟨gb434, 1, none⟩) (Kd.R_far (p := ⟨gb434, 0, none⟩) (Kd.R_types HO431.out BK434.out (by decide)) (fun _ hk => hk.2) (.int .i64 t432)) (fun _ hk => hk.2) (.string t433)) (fun _ h_ => h_.1))) hb); have n2_ := zK (blk_below (g := gb428) (o := .cells #[.int .i64 t426, .string t427] 36 (0, 0)) (by (with_reducible repeat (first | refine zM ?_ _ | refine zP ?_ | refine zQ ?_ _)); refine blk_far ?_ NB428_434.out _; (with_reducible repeat (first | refine zM ?_ _ | refine zP ?_ | refine zQ ?_ _)); refine blk_far ?_ NB428_434.out _; (with_reducible repeat (first | refine zM ?_ _ | refine zP ?_ | refine zQ ?_ _)); exact BK428.out) hb); have n3_ := zK (blk_below (g := gb434) (o := .cells #[.int .i64 t432, .string t433] 36 (0, 0)) (by (with_reducible repeat (first | refine zM ?_ _ | refine zP ?_ | refine zQ ?_ _)); refine blk_put (cs := #[.int .i64 t432, .string (⟨#[]⟩ : ByteArray)]) ?_ 1 _ rfl; (with_reducible repeat (first | refine zM ?_ _ | refine zP ?_ | refine zQ ?_ _)); refine blk_put (cs := #[.int .i64 0, .string (⟨#[]⟩ : ByteArray)]) ?_ 0 _ rfl; (with_reducible repeat (first | refine zM ?_ _ | refine zP ?_ | refine zQ ?_ _)); exact BK434.out) hb); have n4_ := zK (below_step (by repeat (first | (with_reducible first | exact HB.out | apply zA | apply zN | apply zD | refine below_set ?_ GE428.out | refine below_set ?_ GE434.out) | exact HB.out)) hb); clear HO425; clear HO431; clear BK428; clear BK434; clear HB; have HO425 := n0_; have HO431 := n1_; have BK428 := n2_; have BK434 := n3_; have HB := n4_; clear n0_ n1_ n2_ n3_ n4_; (try clear hb); (try clear hb2); (try clear hk); (try clear hi)) | ((with_reducible refine gate_callee (f := 11) rfl ?_); refine goesL_ (some 25) rfl rfl Tryd.func11 (by kernel_rfl) rfl #[.slice A0 l0.length c0] rfl (by (try simp only [List.map_toArray, List.map_cons, List.map_nil]); first | done | rfl | (simp only [List.length_drop, List.length_take]; rfl)) ?_; (with_reducible refine (laws_toEntryS.calls k _ _ l0 t436 _ ?side1 ?side2 A11.out).mono ?_); (case side1 => repeat (first | exact (Kd.C_below HR0.out HB.out) | (with_reducible refine Kd.C_alloc ?_ _) | (with_reducible refine Kd.C_drewN ?_ _) | (with_reducible refine Kd.C_drew ?_))); (case side2 => exact HC0.out); rintro e w28 ⟨v437, rfl, ho0, hb⟩; refine ⟨_, rfl, ?_⟩; have n0_ := zK (Kd.R_elder' (by (with_reducible repeat (first | apply zR | apply zV | apply zW)); exact HO425.out) (Kd.R_base ho0) hb); have n1_ := zK (Kd.R_elder' (by (with_reducible repeat (first | apply zR | apply zV | apply zW)); exact HO431.out) (Kd.R_base ho0) hb); have n2_ := zK (Kd.R_lower (Kd.R_new' (Kd.R_new' ho0 (Kd.R_lt (by (with_reducible repeat (first | apply zR | apply zV | apply zW)); exact HO425.out))) (Kd.R_lt (by (with_reducible repeat (first | apply zR | apply zV | apply zW)); exact HO431.out))) (below_size (by repeat (first | (with_reducible first | exact HB.out | apply zA | apply zN | apply zD | refine below_set ?_ GE428.out | refine below_set ?_ GE434.out) | exact HB.out)))); have n3_ := zK (blk_below (g := gb428) (o := .cells #[.int .i64 t426, .string t427] 36 (0, 0)) (by (with_reducible repeat (first | refine zM ?_ _ | refine zP ?_ | refine zQ ?_ _)); exact BK428.out) hb); have n4_ := zK (blk_below (g := gb434) (o := .cells #[.int .i64 t432, .string t433] 36 (0, 0)) (by (with_reducible repeat (first | refine zM ?_ _ | refine zP ?_ | refine zQ ?_ _)); exact BK434.out) hb); have n5_ := zK (below_step (by repeat (first | (with_reducible first | exact HB.out | apply zA | apply zN | apply zD | refine below_set ?_ GE428.out | refine below_set ?_ GE434.out) | exact HB.out)) hb); clear HO425; clear HO431; clear BK428; clear BK434; clear HB; have HO425 := n0_; have HO431 := n1_; have HO438 := n2_; have BK428 := n3_; have BK434 := n4_; have HB := n5_; clear n0_ n1_ n2_ n3_ n4_ n5_; (try clear hb); (try clear hb2); (try clear hk); (try clear hi); (try clear ho0); obtain ⟨Ao29, co29, eo29⟩ := Kd.R_slice HO438.out; subst eo29) | ((with_reducible refine gate_callee (f := 14) rfl ?_); refine goesL_ (some 26) rfl rfl Tryd.func14 (by kernel_rfl) rfl #[.slice Ao21 t429.length co21, .slice Ao29 t436.length co29] rfl (by (try simp only [List.map_toArray, List.map_cons, List.map_nil]); first | done | rfl | (simp only [List.length_drop, List.length_take]; rfl)) ?_; (with_reducible refine (laws_eqEntryS.calls k _ _ t429 _ _ t436 true _ ?side1 ?side2 ?side3 ?side4 A12.out).mono ?_); (case side1 => repeat (first | exact (Kd.R_reads' HO431.out).2.2 | (with_reducible refine Kd.C_alloc ?_ _) | (with_reducible refine Kd.C_drewN ?_ _) | (with_reducible refine Kd.C_drew ?_))); (case side2 => exact (Kd.R_reads' HO431.out).2.1); (case side3 => repeat (first | exact (Kd.R_reads' HO438.out).2.2 | (with_reducible refine Kd.C_alloc ?_ _) | (with_reducible refine Kd.C_drewN ?_ _) | (with_reducible refine Kd.C_drew ?_))); (case side4 => exact (Kd.R_reads' HO438.out).2.1); rintro e w30 ⟨rfl, hb⟩; refine ⟨_, rfl, ?_⟩; have n0_ := zK (Kd.R_below (by (with_reducible repeat (first | apply zR | apply zV | apply zW)); exact HO425.out) hb); have n1_ := zK (Kd.R_below (by (with_reducible repeat (first | apply zR | apply zV | apply zW)); exact HO431.out) hb); have n2_ := zK (Kd.R_below (by (with_reducible repeat (first | apply zR | apply zV | apply zW)); exact HO438.out) hb); have n3_ := zK (blk_below (g := gb428) (o := .cells #[.int .i64 t426, .string t427] 36 (0, 0)) (by (with_reducible repeat (first | refine zM ?_ _ | refine zP ?_ | refine zQ ?_ _)); exact BK428.out) hb); have n4_ := zK (blk_below (g := gb434) (o := .cells #[.int .i64 t432, .string t433] 36 (0, 0)) (by (with_reducible repeat (first | refine zM ?_ _ | refine zP ?_ | refine zQ ?_ _)); exact BK434.out) hb); have n5_ := zK (below_step (by repeat (first | (with_reducible first | exact HB.out | apply zA | apply zN | apply zD | refine below_set ?_ GE428.out | refine below_set ?_ GE434.out) | exact HB.out)) hb); clear HO425; clear HO431; clear HO438; clear BK428; clear BK434; clear HB; have HO425 := n0_; have HO431 := n1_; have HO438 := n2_; have BK428 := n3_; have BK434 := n4_; have HB := n5_; clear n0_ n1_ n2_ n3_ n4_ n5_; (try clear hb); (try clear hb2); (try clear hk); (try clear hi)))
    go_ret
    exact ⟨by first | rfl | (simp [errW_none, errW_some] <;> rfl) | (simp [*, errW_none, errW_some] <;> rfl), by repeat (first | (with_reducible first | exact HB.out | apply zA | apply zN | apply zD | refine below_set ?_ GE428.out | refine below_set ?_ GE434.out) | exact HB.out)⟩
   ·
    replace c13 := Bool.eq_false_iff.mpr c13
    subst c13
    have H1 : (some false) = some r := by rw [if_neg (show ¬ (false = true) by decide)] at H; exact H
    clear H
    have H := H1
    clear H1
    exact absurd ((Option.some.inj H).trans hT_) (by decide)
  ·
   replace c10 := Bool.eq_false_iff.mpr c10
   subst c10
   have H1 : (some false) = some r := by rw [if_neg (show ¬ (false = true) by decide)] at H; exact H
   clear H
   have H := H1
   clear H1
   exact absurd ((Option.some.inj H).trans hT_) (by decide)

end Go.Proofs.YtjibadlbiapcmaaDoor.PX

namespace Go.Proofs.YtjibadlbiapcmaaDoorX
open Go Go.RowKit Go.Proofs.YtjibadlbiapcmaaDoorW.PrintWords Go.Proofs.YtjibadlbiapcmaaDoor.PX
set_option linter.unusedVariables false
set_option linter.unusedSimpArgs false
def okE (x : IEntry) : Prop := x.f0.size ≤ 1048576 ∧ x.f3.size ≤ 1048576 ∧ 0 ≤ x.f1 ∧ x.f1 ≤ 3 ∧ (x.f2 = 1 ∨ x.f2 = 2)
/-- The last line behind a text. -/
def sumB (t : List UInt8) : ByteArray := ((mkB t ++ (⟨#[115, 117, 109, 32]⟩ : ByteArray)) ++ X.stB (digV (mkB t))) ++ (⟨#[10]⟩ : ByteArray)
theorem stB_nat (u : Nat) : X.stB (u : Int) = mkB (Lib.decDigits u) := by
  unfold X.stB mkB
  rw [Lib.itoa_nonneg]
theorem lineE_size (x : IEntry) (u : Nat) (hu : x.f1 = (u : Int)) : (X.lineE x).size = (Lib.decDigits u).length + 1 + (X.modeB x.f2).size + 1 + x.f3.size + 1 + x.f0.size + 1 := by
  unfold X.lineE
  rw [hu, stB_nat]
  simp only [ByteArray.size_append, mkB_len]
  have z1 : (⟨#[32]⟩ : ByteArray).size = 1 := rfl
  have z2 : (⟨#[10]⟩ : ByteArray).size = 1 := rfl
  omega
theorem modeB_le (m : Int) : (X.modeB m).size ≤ 4 := by
  unfold X.modeB
  split
  · decide
  · split <;> decide
theorem lineE_le (x : IEntry) (h : okE x) : (X.lineE x).size ≤ 3000000 := by
  obtain ⟨h0, h3, h1, h2, _⟩ := h
  obtain ⟨u, hu⟩ : ∃ u : Nat, x.f1 = (u : Int) := ⟨x.f1.toNat, by omega⟩
  have hs := lineE_size x u hu
  have hd := digits_le u u (Nat.le_refl _)
  have hm := modeB_le x.f2
  omega
theorem lineE_eq (acc : List UInt8) (x : IEntry) (u : Nat) (hu : x.f1 = (u : Int)) :
    ((((((((mkB acc ++ mkB (Lib.decDigits u)) ++ (⟨#[32]⟩ : ByteArray)) ++ X.modeB x.f2) ++ (⟨#[32]⟩ : ByteArray)) ++ x.f3) ++ (⟨#[32]⟩ : ByteArray)) ++ x.f0) ++ (⟨#[10]⟩ : ByteArray)) = mkB (acc ++ (X.lineE x).data.toList) := by
  refine ByteArray.ext ?_
  unfold X.lineE X.stB mkB
  rw [hu, Lib.itoa_nonneg]
  simp [ByteArray.data_append, Array.append_assoc]
theorem words_at (x : IEntry) (h : x.f2 = 1 ∨ x.f2 = 2) : rdOf ByteArray.empty ([(⟨#[]⟩ : ByteArray), (⟨#[102, 105, 108, 101]⟩ : ByteArray), (⟨#[114, 117, 110]⟩ : ByteArray), (⟨#[116, 114, 101, 101]⟩ : ByteArray)] : List ByteArray) x.f2 = X.modeB x.f2 := by
  rcases h with h | h <;> rw [h] <;> rfl
theorem entE_get (l : List IEntry) (i : Nat) (h : i < l.length) : rd_T80 l (i : Int) = l[i] := by
  show l.getD ((i : Int)).toNat _ = _
  rw [Int.toNat_natCast, List.getD_eq_getElem?_getD, List.getElem?_eq_getElem h, Option.getD_some]
theorem upE (n : Nat) (h : n < 9223372036854775807) : wrap64 ((n : Int) + 1) = ((n + 1 : Nat) : Int) := (wrap_in (by omega) (by omega)).trans (by omega)
theorem lineE_bytes (x : IEntry) : (X.lineE x).data.toList.length = (X.lineE x).size := Array.length_toList
theorem spec_text (l : List IEntry) (hl : l.length ≤ 200) (hs : ∀ x ∈ l, okE x) : ∀ (d i : Nat), i + d = l.length → ∀ (acc : List UInt8), acc.length ≤ i * 3000000 → ∀ k, d + 700000100 < k → spec_l10Text.l0 k l (mkB acc) (i : Int) = some (sumB (acc ++ X.entL (l.drop i)))
  | 0, i, hi, acc, ha, k, hk => by
    obtain ⟨k, rfl⟩ : ∃ m, k = m + 2 := ⟨k - 2, by omega⟩
    have hz : (mkB acc).size = acc.length := mkB_len acc
    obtain ⟨u, hu1, hu2⟩ := digV_nat (mkB acc)
    have hdig := spec_digits k u (Nat.lt_of_lt_of_le (show u < 10 ^ 10 by omega) (Nat.pow_le_pow_right (by decide) (by omega))) (by omega)
    have hd := digits_le u u (Nat.le_refl _)
    rw [spec_l10Text.l0, if_neg (by omega), if_pos (by omega), spec_digest (mkB acc) (by omega) (k + 1) (by omega), Option.bind_some, hu2, hdig, Option.bind_some]
    have z1 : (mkB acc ++ (⟨#[115, 117, 109, 32]⟩ : ByteArray)).size = acc.length + 4 := by rw [ByteArray.size_append, hz]; rfl
    have z2 : (mkB (Lib.decDigits u)).size = (Lib.decDigits u).length := mkB_len _
    rw [if_pos (by omega), if_pos (by rw [ByteArray.size_append]; omega), List.drop_eq_nil_of_le (by omega)]
    unfold sumB
    rw [show acc ++ X.entL [] = acc from List.append_nil acc, hu2, stB_nat]
  | d + 1, i, hi, acc, ha, k, hk => by
    obtain ⟨k, rfl⟩ : ∃ m, k = m + 2 := ⟨k - 2, by omega⟩
    have hlt : i < l.length := by omega
    have hok := hs _ (List.getElem_mem hlt)
    have hbs := lineE_le _ hok
    have hdrop : acc ++ X.entL (l.drop i) = (acc ++ (X.lineE l[i]).data.toList) ++ X.entL (l.drop (i + 1)) := by
      rw [List.drop_eq_getElem_cons hlt, List.append_assoc]
      rfl
    rw [hdrop, spec_l10Text.l0, if_pos (by omega), if_pos (by omega), entE_get l i hlt]
    have ih := spec_text l hl hs d (i + 1) (by omega) (acc ++ (X.lineE l[i]).data.toList) (by rw [List.length_append, lineE_bytes]; omega) (k + 1) (by omega)
    generalize l[i] = x at hok hbs ih
    obtain ⟨h0, h3, h1, h2, hm⟩ := hok
    obtain ⟨u, hu⟩ : ∃ u : Nat, x.f1 = (u : Int) := ⟨x.f1.toNat, by omega⟩
    have hls := lineE_size x u hu
    have hdig := spec_digits k u (Nat.lt_of_lt_of_le (show u < 10 ^ 10 by omega) (Nat.pow_le_pow_right (by decide) (by omega))) (by omega)
    have hline := lineE_eq acc x u hu
    have hw := words_at x hm
    have hz : (mkB acc).size = acc.length := mkB_len acc
    have hz2 : (mkB (Lib.decDigits u)).size = (Lib.decDigits u).length := mkB_len _
    rw [hu, hdig, Option.bind_some]
    have z1 : (⟨#[32]⟩ : ByteArray).size = 1 := rfl
    have hmr : 0 ≤ x.f2 ∧ x.f2 < 4 := by omega
    rw [if_pos (by omega), if_pos (by rw [ByteArray.size_append]; omega), show spec_l6Words.f = some ([(⟨#[]⟩ : ByteArray), (⟨#[102, 105, 108, 101]⟩ : ByteArray), (⟨#[114, 117, 110]⟩ : ByteArray), (⟨#[116, 114, 101, 101]⟩ : ByteArray)] : List ByteArray) from rfl, Option.bind_some, if_pos hmr.1, if_pos (show x.f2 < (([(⟨#[]⟩ : ByteArray), (⟨#[102, 105, 108, 101]⟩ : ByteArray), (⟨#[114, 117, 110]⟩ : ByteArray), (⟨#[116, 114, 101, 101]⟩ : ByteArray)] : List ByteArray).length : Int) from hmr.2), hw]
    rw [if_pos (by simp only [ByteArray.size_append]; omega), if_pos (by simp only [ByteArray.size_append]; omega), if_pos (by simp only [ByteArray.size_append]; omega), if_pos (by simp only [ByteArray.size_append]; omega), if_pos (by simp only [ByteArray.size_append]; omega), if_pos (by simp only [ByteArray.size_append]; omega), hline, upE i (by omega)]
    exact ih
theorem entL_le (l : List IEntry) (hs : ∀ x ∈ l, okE x) : (X.entL l).length ≤ l.length * 3000000 := by
  induction l with
  | nil => exact Nat.le_refl _
  | cons x l ih =>
    have h1 := ih fun y hy => hs y (List.mem_cons_of_mem _ hy)
    have h2 := lineE_le x (hs x List.mem_cons_self)
    have e : X.entL (x :: l) = (X.lineE x).data.toList ++ X.entL l := rfl
    rw [e, List.length_append, lineE_bytes, List.length_cons]
    omega
def textV (l : List IEntry) : Int × ByteArray := if indexV l = 0 then (0, sumB (X.entL l)) else (indexV l, ⟨#[]⟩)
theorem zero_steps {step : Nat → Unit → Sum Int Unit} {fin : Unit → Int} (hne : ∀ i r, step i () = .inl r → r ≠ 0) : ∀ (d i : Nat), run step fin d i () = 0 → ∀ j, i ≤ j → j < i + d → step j () = .inr ()
  | 0, i, _, j, h1, h2 => absurd h2 (by omega)
  | d + 1, i, h, j, h1, h2 => by
    cases hs : step i () with
    | inl r =>
      rw [run_out hs] at h
      exact absurd h (hne i r hs)
    | inr s =>
      rw [run_on hs] at h
      by_cases e : j = i
      · subst e; exact hs
      · exact zero_steps hne d (i + 1) h j (by omega) (by omega)
theorem entryStep_ne (l : List IEntry) (i : Nat) (r : Int) (h : entryStep l i () = .inl r) : r ≠ 0 := by
  unfold entryStep at h
  split at h
  · split at h
    · split at h
      · split at h
        · injection h with h; omega
        · cases h
      · injection h with h; omega
    · injection h with h; omega
  · injection h with h; omega
theorem index_ok (l : List IEntry) (h : indexV l = 0) (hz : ∀ x ∈ l, x.f0.size ≤ 1048576 ∧ x.f3.size ≤ 1048576) : l.length ≤ 200 ∧ ∀ x ∈ l, okE x := by
  unfold indexV at h
  by_cases h200 : l.length > 200
  · rw [if_pos h200] at h
    exact absurd h (by decide)
  · rw [if_neg h200] at h
    refine ⟨by omega, fun x hx => ?_⟩
    obtain ⟨i, hi, rfl⟩ := List.getElem_of_mem hx
    have hst := zero_steps (entryStep_ne l) l.length 0 h i (Nat.zero_le _) (by omega)
    have he : entAt l i = l[i] := by
      unfold entAt
      rw [List.getD_eq_getElem?_getD, List.getElem?_eq_getElem hi, Option.getD_some]
    unfold entryStep at hst
    rw [he] at hst
    have hzx := hz _ hx
    have hb : (inR l[i].f1 && modeOk l[i].f2) = true := by
      cases hc : (inR l[i].f1 && modeOk l[i].f2) with
      | true => rfl
      | false =>
        rw [hc] at hst
        split at hst <;> cases hst
    unfold inR modeOk at hb
    simp only [Bool.and_eq_true, Bool.or_eq_true, decide_eq_true_eq] at hb
    exact ⟨hzx.1, hzx.2, hb.1.1, hb.1.2, hb.2⟩
theorem spec_format (l : List IEntry) (hl : l.length ≤ 1048576) (hz : ∀ x ∈ l, x.f0.size ≤ 1048576 ∧ x.f3.size ≤ 1048576) (k : Nat) (hk : 800000000 < k) : spec_FormatIndex.f (2 * k) l = some (textV l) := by
  unfold spec_FormatIndex.f textV
  rw [spec_index l hl (fun x hx => (hz x hx).1) k (by omega), Option.bind_some]
  by_cases h : indexV l = 0
  · obtain ⟨h1, h2⟩ := index_ok l h hz
    have ht := spec_text l h1 h2 l.length 0 (by omega) [] (Nat.zero_le _) (2 * k) (by omega)
    rw [List.nil_append, List.drop_zero] at ht
    rw [if_pos h, if_pos h, show spec_l10Text.f (2 * k) l = some (sumB (X.entL l)) from ht, Option.bind_some]
  · rw [if_neg h, if_neg h]
theorem impl_format (l : List IEntry) (hl : l.length ≤ 1048576) (hz : ∀ x ∈ l, x.f0.size ≤ 1048576 ∧ x.f3.size ≤ 1048576) (k : Nat) (hk : 800000000 < k) : impl_FormatIndex.f (2 * k) l = some (textV l) := by
  unfold impl_FormatIndex.f textV
  rw [impl_index l hl (fun x hx => (hz x hx).1) k (by omega), Option.bind_some]
  by_cases h : indexV l = 0
  · obtain ⟨h1, h2⟩ := index_ok l h hz
    have hle := entL_le l h2
    have ht : impl_entriesText.f l = some (mkB (X.entL l)) := by
      unfold impl_entriesText.f impl_entriesText.ok
      rw [if_pos]
      · rfl
      · simp only [Bool.and_eq_true, decide_eq_true_eq, List.all_eq_true]
        refine ⟨by omega, by omega, fun x hx => ?_⟩
        obtain ⟨_, _, a, b, c⟩ := h2 x hx
        unfold X.entIn X.modeIn
        simp only [Bool.and_eq_true, Bool.or_eq_true, decide_eq_true_eq]
        exact ⟨by omega, by omega, by omega⟩
    have hz2 : (mkB (X.entL l)).size = (X.entL l).length := mkB_len _
    obtain ⟨u, hu1, hu2⟩ := digV_nat (mkB (X.entL l))
    have hd := digits_le u u (Nat.le_refl _)
    have hst : (X.stB (digV (mkB (X.entL l)))).size = (Lib.decDigits u).length := by rw [hu2, stB_nat, mkB_len]
    have hdec : impl_decimal.f (digV (mkB (X.entL l))) = some (X.stB (digV (mkB (X.entL l)))) := by
      unfold impl_decimal.f strconv_FormatInt_155.f
      rw [if_pos rfl, if_pos (by omega), if_pos (by omega)]
      rfl
    have hsum : impl_sumLine.f (2 * k) (mkB (X.entL l)) = some (((⟨#[115, 117, 109, 32]⟩ : ByteArray) ++ X.stB (digV (mkB (X.entL l)))) ++ (⟨#[10]⟩ : ByteArray)) := by
      unfold impl_sumLine.f
      rw [impl_digest _ (by omega) (2 * k) (by omega), Option.bind_some, hdec, Option.bind_some, if_pos (by omega), if_pos (by rw [ByteArray.size_append, show (⟨#[115, 117, 109, 32]⟩ : ByteArray).size = 4 from rfl]; omega)]
    rw [if_pos h, if_pos h, ht, Option.bind_some, hsum, Option.bind_some]
    have hall : (((⟨#[115, 117, 109, 32]⟩ : ByteArray) ++ X.stB (digV (mkB (X.entL l)))) ++ (⟨#[10]⟩ : ByteArray)).size = 4 + (Lib.decDigits u).length + 1 := by
      simp only [ByteArray.size_append, hst]
      rfl
    rw [if_pos (by omega)]
    unfold sumB
    congr 2
    refine ByteArray.ext ?_
    simp [ByteArray.data_append, Array.append_assoc]
  · rw [if_neg h, if_neg h]
theorem format_pure (l : List LEntry) (hl1 : l.length * 48 ≤ 140737488351232) (hl2 : ∀ x ∈ l, x.f0.size ≤ 140737488351232 ∧ (Go.Lit.int .i64 x.f1).wf = true ∧ (Go.Lit.int .i64 x.f2).wf = true ∧ x.f3.size ≤ 140737488351232) : ∃ k, laws_FnExactFormatIndex.f k l = some true := by
  obtain ⟨m, hm0⟩ : ∃ m, m = l.length + 800000001 := ⟨_, rfl⟩
  refine ⟨2 * m, ?_⟩
  unfold laws_FnExactFormatIndex.f
  obtain ⟨r, hr, hq⟩ := szEntryS_tells l (by omega) (fun x hx => ⟨(hl2 x hx).1, (hl2 x hx).2.2.2⟩) 1048576 (by decide) (by decide) (2 * m) (by omega)
  rw [hr, Option.bind_some]
  by_cases c : r < 0
  · rw [if_pos c]
  obtain ⟨hn, hs⟩ := hq (by omega)
  have hm : (l.map entryConv).length = l.length := List.length_map _
  have hz : ∀ x ∈ l.map entryConv, x.f0.size ≤ 1048576 ∧ x.f3.size ≤ 1048576 := by
    intro x hx
    obtain ⟨y, hy, rfl⟩ := List.mem_map.1 hx
    exact hs y hy
  have e1 := toEntryS_tells l hn (2 * m) (by omega)
  have e2 := spec_format (l.map entryConv) (by omega) hz m (by omega)
  have e3 := impl_format (l.map entryConv) (by omega) hz m (by omega)
  have e4 := eqEntryS_same (l.map entryConv) (by omega) (2 * m) (by omega)
  have e6 : laws_eqTextResult.f (textV (l.map entryConv)).1 (textV (l.map entryConv)).2 (textV (l.map entryConv)).1 (textV (l.map entryConv)).2 = some true := by
    unfold laws_eqTextResult.f
    rw [if_pos rfl, if_pos rfl]
  rw [if_neg c]
  simp only [e1, e2, e3, e4, e6, Option.bind_some, if_true]
end Go.Proofs.YtjibadlbiapcmaaDoorX
