/- Texts of this claim set one behind another by wip/bundle.py: PXf12, PXf3, XLawIndexFiles. -/
import Derived.Test.YtjibadlbiapcmaaDoorBIndexFiles11
import Derived.Test.YtjibadlbiapcmaaDoorBIndexFiles12
import Derived.Test.YtjibadlbiapcmaaDoorBIndexFiles19
import Derived.Test.YtjibadlbiapcmaaDoorBIndexFiles20
import Derived.Test.YtjibadlbiapcmaaDoorBIndexFiles22
import Derived.Test.YtjibadlbiapcmaaDoorBIndexFiles13
import Derived.Test.YtjibadlbiapcmaaDoorBIndexFiles21
namespace Go.Proofs.YtjibadlbiapcmaaDoor.PX
open Go.RowKit Go.Proofs.YtjibadlbiapcmaaDoorW.PrintWords Go.Proofs.YtjibadlbiapcmaaDoorW.PrintLast Go.Proofs.YtjibadlbiapcmaaDoorW.PrintMore
attribute [local go_sem] max2_int min2_int max_two min_two max_three min_three max_four min_four   -- for this text's walks alone
set_option linter.unusedVariables false
set_option linter.unusedSimpArgs false

/-! ### impl_IndexFiles: function 12 -/
def impl_IndexFiles.f (k : Nat) (l0 : List (S80)) : Option (Int × (List (S106))) := (impl_IndexFault.f k l0).bind fun t281 => ((impl_clashesIn.f l0).bind fun t282 => ((impl_codeIf.f (decide ((t282.length : Int) > 0)) 8).bind fun t285 => ((impl_firstCode.f k (([t281, t285] : List Int))).bind fun t289 => (if t289 = 0 then ((impl_stageFiles.f k l0 0).bind fun t290 => ((impl_rightFiles.f k t290).bind fun bt293 => (some (bt293.1, bt293.2)))) else (some (t289, ([] : List (S106))))))))
theorem impl_IndexFiles.mono : ∀ a0 k, LeO (impl_IndexFiles.f k a0) (impl_IndexFiles.f (k + 1) a0) := by
 intro a0 k
 unfold impl_IndexFiles.f
 repeat' first
   | (with_reducible exact impl_IndexFault.mono _ _)
   | (with_reducible exact impl_firstCode.mono _ _)
   | (with_reducible exact impl_rightFiles.mono _ _)
   | (with_reducible exact impl_stageFiles.mono _ _ _)
   | (with_reducible exact LeO.refl _)
   | (with_reducible exact LeO.none _)
   | (with_reducible refine LeO.ite ?_ ?_)
   | (with_reducible refine LeO.bind ?_ (fun _ => ?_))
   | exact impl_IndexFault.mono _ _
   | exact impl_firstCode.mono _ _
   | exact impl_rightFiles.mono _ _
   | exact impl_stageFiles.mono _ _ _
   | exact LeO.none _
   | refine LeO.ite ?_ ?_
   | refine LeO.bind ?_ (fun _ => ?_)
set_option maxHeartbeats 8000000 in
set_option maxRecDepth 100000 in
theorem impl_IndexFiles.calls (k : Nat) (A0 : Option Addr) (c0 : Nat) (l0 : List (S80)) (r1 : Int) (r2 : List (S106)) (w : World) (hr0 : Kd.C k80 w A0 l0.length l0) (hc0 : l0.length ≤ c0) (h : impl_IndexFiles.f k l0 = some (r1, r2)) :
  Calls Tryd.prog 12 #[.slice A0 l0.length c0] w fun e w' => ∃ v1_ : Value, e = .returned (.agg #[.int .i64 r1, v1_]) ∧ Kd.R k106 106 w' w.heap.size (fun _ => True) v1_ r2 ∧ Below w.heap.size w w' := by
 have hu26 := Tryd.underlying26
 have HR0 := zK hr0
 have HC0 := zK hc0
 clear hr0 hc0
 have HB := zK (Below.refl w.heap.size w)
 have H : ((impl_IndexFault.f k l0).bind fun t281 => ((impl_clashesIn.f l0).bind fun t282 => ((impl_codeIf.f (decide ((t282.length : Int) > 0)) 8).bind fun t285 => ((impl_firstCode.f k (([t281, t285] : List Int))).bind fun t289 => (if t289 = 0 then ((impl_stageFiles.f k l0 0).bind fun t290 => ((impl_rightFiles.f k t290).bind fun bt293 => (some (bt293.1, bt293.2)))) else (some (t289, ([] : List (S106))))))))) = some (r1, r2) := h
 clear h
 replace H := Option.bind_eq_some_iff.mp H
 obtain ⟨t281, A20, H⟩ := H
 replace H : ((impl_clashesIn.f l0).bind fun t282 => ((impl_codeIf.f (decide ((t282.length : Int) > 0)) 8).bind fun t285 => ((impl_firstCode.f k (([t281, t285] : List Int))).bind fun t289 => (if t289 = 0 then ((impl_stageFiles.f k l0 0).bind fun t290 => ((impl_rightFiles.f k t290).bind fun bt293 => (some (bt293.1, bt293.2)))) else (some (t289, ([] : List (S106)))))))) = some (r1, r2) := H
 have A2 := zK A20
 clear A20
 replace H := Option.bind_eq_some_iff.mp H
 obtain ⟨t282, A30, H⟩ := H
 replace H : ((impl_codeIf.f (decide ((t282.length : Int) > 0)) 8).bind fun t285 => ((impl_firstCode.f k (([t281, t285] : List Int))).bind fun t289 => (if t289 = 0 then ((impl_stageFiles.f k l0 0).bind fun t290 => ((impl_rightFiles.f k t290).bind fun bt293 => (some (bt293.1, bt293.2)))) else (some (t289, ([] : List (S106))))))) = some (r1, r2) := H
 have A3 := zK A30
 clear A30
 replace H := Option.bind_eq_some_iff.mp H
 obtain ⟨t285, A40, H⟩ := H
 replace H : ((impl_firstCode.f k (([t281, t285] : List Int))).bind fun t289 => (if t289 = 0 then ((impl_stageFiles.f k l0 0).bind fun t290 => ((impl_rightFiles.f k t290).bind fun bt293 => (some (bt293.1, bt293.2)))) else (some (t289, ([] : List (S106)))))) = some (r1, r2) := H
 have A4 := zK A40
 clear A40
 obtain ⟨y286, hy286⟩ : ∃ y_ : List Int, y_ = (([t281, t285] : List Int)) := ⟨_, rfl⟩
 replace H : ((impl_firstCode.f k y286).bind fun t289 => (if t289 = 0 then ((impl_stageFiles.f k l0 0).bind fun t290 => ((impl_rightFiles.f k t290).bind fun bt293 => (some (bt293.1, bt293.2)))) else (some (t289, ([] : List (S106)))))) = some (r1, r2) := by first | (rw [hy286]; with_reducible exact H) | (have H2_ := (Option.bind_some _ _).symm.trans H; rw [hy286]; with_reducible exact H2_) | (have H2_ := (Option.bind_some _ _).symm.trans H; with_reducible exact H2_) | with_reducible exact H | (rw [hy286]; exact H) | exact H
 have Ny286 := zK hy286
 clear hy286
 replace H := Option.bind_eq_some_iff.mp H
 obtain ⟨t289, A50, H⟩ := H
 replace H : (if t289 = 0 then ((impl_stageFiles.f k l0 0).bind fun t290 => ((impl_rightFiles.f k t290).bind fun bt293 => (some (bt293.1, bt293.2)))) else (some (t289, ([] : List (S106))))) = some (r1, r2) := H
 have A5 := zK A50
 clear A50
 by_cases c6 : t289 = 0
 ·
  rw [if_pos c6] at H
  have c6b0 : (t289 == 0) = true := beq_iff_eq.mpr c6
  have c6b1 : (t289 != 0) = false := bne_eq_false_iff_eq.mpr c6
  clear c6
  replace H := Option.bind_eq_some_iff.mp H
  obtain ⟨t290, A70, H⟩ := H
  replace H : ((impl_rightFiles.f k t290).bind fun bt293 => (some (bt293.1, bt293.2))) = some (r1, r2) := H
  have A7 := zK A70
  clear A70
  replace H := Option.bind_eq_some_iff.mp H
  obtain ⟨⟨t293, t294⟩, A80, H⟩ := H
  replace H : (some (t293, t294)) = some (r1, r2) := H
  have A8 := zK A80
  clear A80
  simp only [Option.some.injEq, Prod.mk.injEq] at H
  obtain ⟨rfl, rfl⟩ := H
  go_enter Tryd.func12, Tryd.ntmps12
  go_wp2_with (first | ((with_reducible refine gate_dst (N := 2) rfl ?_); refine box_event ?hg (N := 2) ?hd (cs := #[.int .i64 0, .slice none 0 0]) (t := 26) ?hr ?_; (case hd => rfl); (case hg => rfl); (case hr => first | (go_simp; done) | (go_simp; rfl)); intro gb280 hg w9 hbox hb; have n0_ := zK (below_step (by repeat (first | (with_reducible first | exact HB.out | apply zA | apply zN | apply zD) | exact HB.out)) hb); have n1_ := zK (hbox); have n2_ := zK ((by rw [hg]; exact (below_size (by repeat (first | (with_reducible first | exact HB.out | apply zA | apply zN | apply zD) | exact HB.out))) : w.heap.size ≤ gb280)); have n3_ := zK ((by rw [hg]; exact (below_size (by repeat (first | (with_reducible first | exact HB.out | apply zA | apply zN | apply zD) | exact HB.out))) : w.heap.size ≤ gb280)); clear HB; have HB := n0_; have BK280 := n1_; have GW280 := n2_; have GE280 := n3_; clear n0_ n1_ n2_ n3_; clear hb hbox hg) | ((with_reducible refine gate_callee (f := 54) rfl ?_); refine goesL_ (some 5) rfl rfl Tryd.func54 (by kernel_rfl) rfl #[.slice A0 l0.length c0] rfl (by (try simp only [List.map_toArray, List.map_cons, List.map_nil]); first | done | rfl | (simp only [List.length_drop, List.length_take]; rfl)) ?_; (with_reducible refine (impl_IndexFault.calls k _ _ l0 t281 _ ?side1 ?side2 A2.out).mono ?_); (case side1 => repeat (first | exact (Kd.C_below HR0.out HB.out) | (with_reducible refine Kd.C_alloc ?_ _) | (with_reducible refine Kd.C_drewN ?_ _) | (with_reducible refine Kd.C_drew ?_))); (case side2 => exact HC0.out); rintro e w10 ⟨rfl, hb⟩; refine ⟨_, rfl, ?_⟩; have n0_ := zK (blk_below (g := gb280) (o := .cells #[.int .i64 0, .slice none 0 0] 26 (0, 0)) (by (with_reducible repeat (first | refine zM ?_ _ | refine zP ?_ | refine zQ ?_ _)); exact BK280.out) hb); have n1_ := zK (below_step (by repeat (first | (with_reducible first | exact HB.out | apply zA | apply zN | apply zD | refine below_set ?_ GE280.out) | exact HB.out)) hb); clear BK280; clear HB; have BK280 := n0_; have HB := n1_; clear n0_ n1_; (try clear hb); (try clear hb2); (try clear hk); (try clear hi)) | ((with_reducible refine gate_callee (f := 56) rfl ?_); refine goesL_ (some 7) rfl rfl Tryd.func56 (by kernel_rfl) rfl #[.slice A0 l0.length c0] rfl (by (try simp only [List.map_toArray, List.map_cons, List.map_nil]); first | done | rfl | (simp only [List.length_drop, List.length_take]; rfl)) ?_; (with_reducible refine (impl_clashesIn.calls _ _ l0 t282 _ ?side1 ?side2 A3.out).mono ?_); (case side1 => repeat (first | exact (Kd.C_below HR0.out HB.out) | (with_reducible refine Kd.C_alloc ?_ _) | (with_reducible refine Kd.C_drewN ?_ _) | (with_reducible refine Kd.C_drew ?_))); (case side2 => exact HC0.out); rintro e w11 ⟨v283, rfl, ho0, hb⟩; refine ⟨_, rfl, ?_⟩; have n0_ := zK (Kd.R_lower ho0 (below_size (by repeat (first | (with_reducible first | exact HB.out | apply zA | apply zN | apply zD | refine below_set ?_ GE280.out) | exact HB.out)))); have n1_ := zK (blk_below (g := gb280) (o := .cells #[.int .i64 0, .slice none 0 0] 26 (0, 0)) (by (with_reducible repeat (first | refine zM ?_ _ | refine zP ?_ | refine zQ ?_ _)); exact BK280.out) hb); have n2_ := zK (below_step (by repeat (first | (with_reducible first | exact HB.out | apply zA | apply zN | apply zD | refine below_set ?_ GE280.out) | exact HB.out)) hb); clear BK280; clear HB; have HO284 := n0_; have BK280 := n1_; have HB := n2_; clear n0_ n1_ n2_; (try clear hb); (try clear hb2); (try clear hk); (try clear hi); (try clear ho0); obtain ⟨Ao12, co12, eo12⟩ := Kd.R_slice HO284.out; subst eo12) | ((with_reducible refine gate_callee (f := 55) rfl ?_); refine goesL_ (some 10) rfl rfl Tryd.func55 (by kernel_rfl) rfl #[.bool (decide (0 < t282.length)), .int .i64 8] rfl (by (try simp only [List.map_toArray, List.map_cons, List.map_nil]); first | done | rfl | (simp only [List.length_drop, List.length_take]; rfl)) ?_; (with_reducible refine (impl_codeIf.calls (decide (0 < t282.length)) 8 t285 _ (by rw [show decide (0 < t282.length) = decide ((t282.length : Int) > 0) from by simp]; exact A4.out)).mono ?_); rintro e w' ⟨rfl, ⟨nd, rfl⟩⟩; refine ⟨_, rfl, ?_⟩; (try (rw [drewN_self w11]; generalize hq_ : World.drewN w11 _ = w11; have n0_ : Aside0 (Kd.R Kd.string 9 w11 w.heap.size (fun _ => True) (.slice Ao12 t282.length co12) t282) := ⟨by rw [← hq_]; exact (by (with_reducible repeat (first | apply zR | apply zV | apply zW)); exact HO284.out)⟩; have n1_ : Aside0 (w11.heap[gb280]? = some (.cells #[.int .i64 0, .slice none 0 0] 26 (0, 0))) := ⟨by rw [← hq_]; exact (by (with_reducible repeat (first | refine zM ?_ _ | refine zP ?_ | refine zQ ?_ _)); exact BK280.out)⟩; have n2_ : Aside0 (Below w.heap.size w w11) := ⟨by rw [← hq_]; exact (by repeat (first | (with_reducible first | exact HB.out | apply zA | apply zN | apply zD | refine below_set ?_ GE280.out) | exact HB.out))⟩; clear HO284 BK280 HB hq_; have HO284 := n0_; have BK280 := n1_; have HB := n2_; clear n0_ n1_ n2_))) | ((with_reducible refine gate_dst (N := 11) rfl ?_); refine Kd.R_lit (Kd.int .i64) _ 2 ?hg (N := 11) ?hd (xs := ([t281, t285] : List Int)) (inner := [.int .i64 t281, .int .i64 t285]) (ok := fun _ => True) (okp := fun _ => True) ?hr ?hp (fun _ hk => hk) trivial (Below.refl _ _) (Nat.le_refl _) (by simp) ?_; (case hd => rfl); (case hg => rfl); (case hr => first | (go_simp; done) | (go_simp; rfl)); (case hp => exact (Reps.one (show Kd.M (Kd.int .i64) _ _ _ t281 [.int .i64 t281] from rfl) (Reps.one (show Kd.M (Kd.int .i64) _ _ _ t285 [.int .i64 t285] from rfl) (Reps.none _ _)))); intro v287 w13 ho14 hb hg_ hnew_; clear hg_ hnew_; (first | rw [← Ny286.out] at ho14 | (simp only [Int.reduceToNat] at ho14; rw [← Ny286.out] at ho14)); have n0_ := zK (Kd.R_below (by (with_reducible repeat (first | apply zR | apply zV | apply zW)); exact HO284.out) hb); have n1_ := zK (Kd.R_lower ho14 (below_size (by repeat (first | (with_reducible first | exact HB.out | apply zA | apply zN | apply zD | refine below_set ?_ GE280.out) | exact HB.out)))); have n2_ := zK (blk_below (g := gb280) (o := .cells #[.int .i64 0, .slice none 0 0] 26 (0, 0)) (by (with_reducible repeat (first | refine zM ?_ _ | refine zP ?_ | refine zQ ?_ _)); exact BK280.out) hb); have n3_ := zK (below_step (by repeat (first | (with_reducible first | exact HB.out | apply zA | apply zN | apply zD | refine below_set ?_ GE280.out) | exact HB.out)) hb); clear HO284; clear BK280; clear HB; have HO284 := n0_; have HO288 := n1_; have BK280 := n2_; have HB := n3_; clear n0_ n1_ n2_ n3_; clear hb ho14; obtain ⟨Ao15, co15, eo15⟩ := Kd.R_slice HO288.out; subst eo15) | ((with_reducible refine gate_callee (f := 53) rfl ?_); refine goesL_ (some 12) rfl rfl Tryd.func53 (by kernel_rfl) rfl #[.slice Ao15 y286.length co15] rfl (by (try simp only [List.map_toArray, List.map_cons, List.map_nil]); first | done | rfl | (simp only [List.length_drop, List.length_take]; rfl)) ?_; (with_reducible refine (impl_firstCode.calls k _ _ y286 t289 _ ?side1 ?side2 A5.out).mono ?_); (case side1 => repeat (first | exact (Kd.R_reads' HO288.out).2.2 | (with_reducible refine Kd.C_alloc ?_ _) | (with_reducible refine Kd.C_drewN ?_ _) | (with_reducible refine Kd.C_drew ?_))); (case side2 => exact (Kd.R_reads' HO288.out).2.1); rintro e w' ⟨rfl, ⟨nd, rfl⟩⟩; refine ⟨_, rfl, ?_⟩; (try (rw [drewN_self w13]; generalize hq_ : World.drewN w13 _ = w13; have n0_ : Aside0 (Kd.R Kd.string 9 w13 w.heap.size (fun _ => True) (.slice Ao12 t282.length co12) t282) := ⟨by rw [← hq_]; exact (by (with_reducible repeat (first | apply zR | apply zV | apply zW)); exact HO284.out)⟩; have n1_ : Aside0 (Kd.R (Kd.int .i64) 2 w13 w.heap.size (fun _ => True) (.slice Ao15 y286.length co15) y286) := ⟨by rw [← hq_]; exact (by (with_reducible repeat (first | apply zR | apply zV | apply zW)); exact HO288.out)⟩; have n2_ : Aside0 (w13.heap[gb280]? = some (.cells #[.int .i64 0, .slice none 0 0] 26 (0, 0))) := ⟨by rw [← hq_]; exact (by (with_reducible repeat (first | refine zM ?_ _ | refine zP ?_ | refine zQ ?_ _)); exact BK280.out)⟩; have n3_ : Aside0 (Below w.heap.size w w13) := ⟨by rw [← hq_]; exact (by repeat (first | (with_reducible first | exact HB.out | apply zA | apply zN | apply zD | refine below_set ?_ GE280.out) | exact HB.out))⟩; clear HO284 HO288 BK280 HB hq_; have HO284 := n0_; have HO288 := n1_; have BK280 := n2_; have HB := n3_; clear n0_ n1_ n2_ n3_))) | ((with_reducible refine gate_callee (f := 58) rfl ?_); refine goesL_ (some 18) rfl rfl Tryd.func58 (by kernel_rfl) rfl #[.slice A0 l0.length c0, .int .i64 0] rfl (by (try simp only [List.map_toArray, List.map_cons, List.map_nil]); first | done | rfl | (simp only [List.length_drop, List.length_take]; rfl)) ?_; (with_reducible refine (impl_stageFiles.calls k _ _ l0 0 t290 _ ?side1 ?side2 A7.out).mono ?_); (case side1 => repeat (first | exact (Kd.C_below HR0.out HB.out) | (with_reducible refine Kd.C_alloc ?_ _) | (with_reducible refine Kd.C_drewN ?_ _) | (with_reducible refine Kd.C_drew ?_))); (case side2 => exact HC0.out); rintro e w16 ⟨v291, rfl, ho0, hb⟩; refine ⟨_, rfl, ?_⟩; have n0_ := zK (Kd.R_below (by (with_reducible repeat (first | apply zR | apply zV | apply zW)); exact HO284.out) hb); have n1_ := zK (Kd.R_below (by (with_reducible repeat (first | apply zR | apply zV | apply zW)); exact HO288.out) hb); have n2_ := zK (Kd.R_lower ho0 (below_size (by repeat (first | (with_reducible first | exact HB.out | apply zA | apply zN | apply zD | refine below_set ?_ GE280.out) | exact HB.out)))); have n3_ := zK (blk_below (g := gb280) (o := .cells #[.int .i64 0, .slice none 0 0] 26 (0, 0)) (by (with_reducible repeat (first | refine zM ?_ _ | refine zP ?_ | refine zQ ?_ _)); exact BK280.out) hb); have n4_ := zK (below_step (by repeat (first | (with_reducible first | exact HB.out | apply zA | apply zN | apply zD | refine below_set ?_ GE280.out) | exact HB.out)) hb); clear HO284; clear HO288; clear BK280; clear HB; have HO284 := n0_; have HO288 := n1_; have HO292 := n2_; have BK280 := n3_; have HB := n4_; clear n0_ n1_ n2_ n3_ n4_; (try clear hb); (try clear hb2); (try clear hk); (try clear hi); (try clear ho0); obtain ⟨Ao17, co17, eo17⟩ := Kd.R_slice HO292.out; subst eo17) | ((with_reducible refine gate_callee (f := 57) rfl ?_); refine goesL_ (some 19) rfl rfl Tryd.func57 (by kernel_rfl) rfl #[.slice Ao17 t290.length co17] rfl (by (try simp only [List.map_toArray, List.map_cons, List.map_nil]); first | done | rfl | (simp only [List.length_drop, List.length_take]; rfl)) ?_; (with_reducible refine (impl_rightFiles.calls k (fun k_ => some k_ = (.slice Ao17 t290.length co17 : Value).ownBlock) (.slice Ao17 t290.length co17) t290 t293 t294 w _ ?side1 ?side2 A8.out).mono ?_); (case side1 => repeat (first | (with_reducible first | exact HB.out | apply zA | apply zN | apply zD | refine below_set ?_ GE280.out) | exact HB.out)); (case side2 => exact Kd.R_tight rfl HO292.out); rintro e w18 ⟨v295, rfl, ho0, hb, hkp⟩; refine ⟨_, rfl, ?_⟩; have n0_ := zK (blk_kept (by (with_reducible repeat (first | refine zM ?_ _ | refine zP ?_ | refine zQ ?_ _)); exact BK280.out) hkp (fun hs_ => (fun e_ => (Kd.R_ne HO292.out BK280.out (by decide)) e_) hs_)); have n1_ := zK (Kd.R_mono (ok' := fun k_ => True) (Kd.R_keptB ((Kd.R_apart' HO284.out (Kd.R_typed HO292.out) (by decide))) hkp (fun k_ hk_ hs_ => (hk_.2) hs_)) (fun k_ hk_ => trivial)); have n2_ := zK (Kd.R_mono (ok' := fun k_ => True) (Kd.R_keptB ((Kd.R_apart' HO288.out (Kd.R_typed HO292.out) (by decide))) hkp (fun k_ hk_ hs_ => (hk_.2) hs_)) (fun k_ hk_ => trivial)); have n3_ := zK (Kd.R_mono (ok' := fun k_ => True) ho0 (fun k_ hk_ => trivial)); have n4_ := zK (hb); clear BK280; clear HO284; clear HO288; clear HB; clear HO292; have BK280 := n0_; have HO284 := n1_; have HO288 := n2_; have HO296 := n3_; have HB := n4_; clear n0_ n1_ n2_ n3_ n4_; (try clear hb); (try clear hkp); (try clear ho0); have hcz19_0 : w18.cell? ⟨gb280, 0, none⟩ = some (.int .i64 0) := (blk_cell BK280.out 0).trans rfl; have hcz19_1 : w18.cell? ⟨gb280, 1, none⟩ = some (.slice none 0 0) := (blk_cell BK280.out 1).trans rfl; have hfz19_0 := blk_frozen BK280.out 0; have hfz19_1 := blk_frozen BK280.out 1; obtain ⟨Ao20, co20, eo20⟩ := Kd.R_slice HO296.out; subst eo20))
  refine bodyPost_ret (results_cell_row rfl _ _ gb280 26 #[.int .i64 t293, .slice Ao20 t294.length co20] (0, 0) _ rfl (by (with_reducible repeat (first | refine zM ?_ _ | refine zP ?_ | refine zQ ?_ _)); refine blk_put (cs := #[.int .i64 t293, .slice none 0 0]) ?_ 1 _ rfl; (with_reducible repeat (first | refine zM ?_ _ | refine zP ?_ | refine zQ ?_ _)); refine blk_put (cs := #[.int .i64 0, .slice none 0 0]) ?_ 0 _ rfl; (with_reducible repeat (first | refine zM ?_ _ | refine zP ?_ | refine zQ ?_ _)); exact BK280.out) Tryd.underlying26 rfl (by kernel_rfl)) rfl ?_
  exact ⟨_, by first | rfl | (simp [errW_none, errW_some] <;> rfl) | (simp [*, errW_none, errW_some] <;> rfl), by (with_reducible repeat (first | apply zR | apply zV | apply zW)); exact Kd.R_mono (Kd.R_far (p := ⟨gb280, 1, none⟩) (Kd.R_far (p := ⟨gb280, 0, none⟩) (Kd.R_types HO296.out BK280.out (by decide)) (fun _ hk => hk.2) (.int .i64 t293)) (fun _ hk => hk.2) (.slice Ao20 t294.length co20)) (fun _ hk => trivial), by repeat (first | (with_reducible first | exact HB.out | apply zA | apply zN | apply zD | refine below_set ?_ GE280.out) | exact HB.out)⟩
 ·
  rw [if_neg c6] at H
  have c6b0 : (t289 == 0) = false := beq_eq_false_iff_ne.mpr c6
  have c6b1 : (t289 != 0) = true := bne_iff_ne.mpr c6
  simp only [Option.some.injEq, Prod.mk.injEq] at H
  obtain ⟨rfl, rfl⟩ := H
  go_enter Tryd.func12, Tryd.ntmps12
  go_wp2_with (first | ((with_reducible refine gate_dst (N := 2) rfl ?_); refine box_event ?hg (N := 2) ?hd (cs := #[.int .i64 0, .slice none 0 0]) (t := 26) ?hr ?_; (case hd => rfl); (case hg => rfl); (case hr => first | (go_simp; done) | (go_simp; rfl)); intro gb280 hg w21 hbox hb; have n0_ := zK (below_step (by repeat (first | (with_reducible first | exact HB.out | apply zA | apply zN | apply zD) | exact HB.out)) hb); have n1_ := zK (hbox); have n2_ := zK ((by rw [hg]; exact (below_size (by repeat (first | (with_reducible first | exact HB.out | apply zA | apply zN | apply zD) | exact HB.out))) : w.heap.size ≤ gb280)); have n3_ := zK ((by rw [hg]; exact (below_size (by repeat (first | (with_reducible first | exact HB.out | apply zA | apply zN | apply zD) | exact HB.out))) : w.heap.size ≤ gb280)); clear HB; have HB := n0_; have BK280 := n1_; have GW280 := n2_; have GE280 := n3_; clear n0_ n1_ n2_ n3_; clear hb hbox hg) | ((with_reducible refine gate_callee (f := 54) rfl ?_); refine goesL_ (some 5) rfl rfl Tryd.func54 (by kernel_rfl) rfl #[.slice A0 l0.length c0] rfl (by (try simp only [List.map_toArray, List.map_cons, List.map_nil]); first | done | rfl | (simp only [List.length_drop, List.length_take]; rfl)) ?_; (with_reducible refine (impl_IndexFault.calls k _ _ l0 t281 _ ?side1 ?side2 A2.out).mono ?_); (case side1 => repeat (first | exact (Kd.C_below HR0.out HB.out) | (with_reducible refine Kd.C_alloc ?_ _) | (with_reducible refine Kd.C_drewN ?_ _) | (with_reducible refine Kd.C_drew ?_))); (case side2 => exact HC0.out); rintro e w22 ⟨rfl, hb⟩; refine ⟨_, rfl, ?_⟩; have n0_ := zK (blk_below (g := gb280) (o := .cells #[.int .i64 0, .slice none 0 0] 26 (0, 0)) (by (with_reducible repeat (first | refine zM ?_ _ | refine zP ?_ | refine zQ ?_ _)); exact BK280.out) hb); have n1_ := zK (below_step (by repeat (first | (with_reducible first | exact HB.out | apply zA | apply zN | apply zD | refine below_set ?_ GE280.out) | exact HB.out)) hb); clear BK280; clear HB; have BK280 := n0_; have HB := n1_; clear n0_ n1_; (try clear hb); (try clear hb2); (try clear hk); (try clear hi)) | ((with_reducible refine gate_callee (f := 56) rfl ?_); refine goesL_ (some 7) rfl rfl Tryd.func56 (by kernel_rfl) rfl #[.slice A0 l0.length c0] rfl (by (try simp only [List.map_toArray, List.map_cons, List.map_nil]); first | done | rfl | (simp only [List.length_drop, List.length_take]; rfl)) ?_; (with_reducible refine (impl_clashesIn.calls _ _ l0 t282 _ ?side1 ?side2 A3.out).mono ?_); (case side1 => repeat (first | exact (Kd.C_below HR0.out HB.out) | (with_reducible refine Kd.C_alloc ?_ _) | (with_reducible refine Kd.C_drewN ?_ _) | (with_reducible refine Kd.C_drew ?_))); (case side2 => exact HC0.out); rintro e w23 ⟨v283, rfl, ho0, hb⟩; refine ⟨_, rfl, ?_⟩; have n0_ := zK (Kd.R_lower ho0 (below_size (by repeat (first | (with_reducible first | exact HB.out | apply zA | apply zN | apply zD | refine below_set ?_ GE280.out) | exact HB.out)))); have n1_ := zK (blk_below (g := gb280) (o := .cells #[.int .i64 0, .slice none 0 0] 26 (0, 0)) (by (with_reducible repeat (first | refine zM ?_ _ | refine zP ?_ | refine zQ ?_ _)); exact BK280.out) hb); have n2_ := zK (below_step (by repeat (first | (with_reducible first | exact HB.out | apply zA | apply zN | apply zD | refine below_set ?_ GE280.out) | exact HB.out)) hb); clear BK280; clear HB; have HO284 := n0_; have BK280 := n1_; have HB := n2_; clear n0_ n1_ n2_; (try clear hb); (try clear hb2); (try clear hk); (try clear hi); (try clear ho0); obtain ⟨Ao24, co24, eo24⟩ := Kd.R_slice HO284.out; subst eo24) | ((with_reducible refine gate_callee (f := 55) rfl ?_); refine goesL_ (some 10) rfl rfl Tryd.func55 (by kernel_rfl) rfl #[.bool (decide (0 < t282.length)), .int .i64 8] rfl (by (try simp only [List.map_toArray, List.map_cons, List.map_nil]); first | done | rfl | (simp only [List.length_drop, List.length_take]; rfl)) ?_; (with_reducible refine (impl_codeIf.calls (decide (0 < t282.length)) 8 t285 _ (by rw [show decide (0 < t282.length) = decide ((t282.length : Int) > 0) from by simp]; exact A4.out)).mono ?_); rintro e w' ⟨rfl, ⟨nd, rfl⟩⟩; refine ⟨_, rfl, ?_⟩; (try (rw [drewN_self w23]; generalize hq_ : World.drewN w23 _ = w23; have n0_ : Aside0 (Kd.R Kd.string 9 w23 w.heap.size (fun _ => True) (.slice Ao24 t282.length co24) t282) := ⟨by rw [← hq_]; exact (by (with_reducible repeat (first | apply zR | apply zV | apply zW)); exact HO284.out)⟩; have n1_ : Aside0 (w23.heap[gb280]? = some (.cells #[.int .i64 0, .slice none 0 0] 26 (0, 0))) := ⟨by rw [← hq_]; exact (by (with_reducible repeat (first | refine zM ?_ _ | refine zP ?_ | refine zQ ?_ _)); exact BK280.out)⟩; have n2_ : Aside0 (Below w.heap.size w w23) := ⟨by rw [← hq_]; exact (by repeat (first | (with_reducible first | exact HB.out | apply zA | apply zN | apply zD | refine below_set ?_ GE280.out) | exact HB.out))⟩; clear HO284 BK280 HB hq_; have HO284 := n0_; have BK280 := n1_; have HB := n2_; clear n0_ n1_ n2_))) | ((with_reducible refine gate_dst (N := 11) rfl ?_); refine Kd.R_lit (Kd.int .i64) _ 2 ?hg (N := 11) ?hd (xs := ([t281, t285] : List Int)) (inner := [.int .i64 t281, .int .i64 t285]) (ok := fun _ => True) (okp := fun _ => True) ?hr ?hp (fun _ hk => hk) trivial (Below.refl _ _) (Nat.le_refl _) (by simp) ?_; (case hd => rfl); (case hg => rfl); (case hr => first | (go_simp; done) | (go_simp; rfl)); (case hp => exact (Reps.one (show Kd.M (Kd.int .i64) _ _ _ t281 [.int .i64 t281] from rfl) (Reps.one (show Kd.M (Kd.int .i64) _ _ _ t285 [.int .i64 t285] from rfl) (Reps.none _ _)))); intro v287 w25 ho26 hb hg_ hnew_; clear hg_ hnew_; (first | rw [← Ny286.out] at ho26 | (simp only [Int.reduceToNat] at ho26; rw [← Ny286.out] at ho26)); have n0_ := zK (Kd.R_below (by (with_reducible repeat (first | apply zR | apply zV | apply zW)); exact HO284.out) hb); have n1_ := zK (Kd.R_lower ho26 (below_size (by repeat (first | (with_reducible first | exact HB.out | apply zA | apply zN | apply zD | refine below_set ?_ GE280.out) | exact HB.out)))); have n2_ := zK (blk_below (g := gb280) (o := .cells #[.int .i64 0, .slice none 0 0] 26 (0, 0)) (by (with_reducible repeat (first | refine zM ?_ _ | refine zP ?_ | refine zQ ?_ _)); exact BK280.out) hb); have n3_ := zK (below_step (by repeat (first | (with_reducible first | exact HB.out | apply zA | apply zN | apply zD | refine below_set ?_ GE280.out) | exact HB.out)) hb); clear HO284; clear BK280; clear HB; have HO284 := n0_; have HO288 := n1_; have BK280 := n2_; have HB := n3_; clear n0_ n1_ n2_ n3_; clear hb ho26; obtain ⟨Ao27, co27, eo27⟩ := Kd.R_slice HO288.out; subst eo27) | ((with_reducible refine gate_callee (f := 53) rfl ?_); refine goesL_ (some 12) rfl rfl Tryd.func53 (by kernel_rfl) rfl #[.slice Ao27 y286.length co27] rfl (by (try simp only [List.map_toArray, List.map_cons, List.map_nil]); first | done | rfl | (simp only [List.length_drop, List.length_take]; rfl)) ?_; (with_reducible refine (impl_firstCode.calls k _ _ y286 t289 _ ?side1 ?side2 A5.out).mono ?_); (case side1 => repeat (first | exact (Kd.R_reads' HO288.out).2.2 | (with_reducible refine Kd.C_alloc ?_ _) | (with_reducible refine Kd.C_drewN ?_ _) | (with_reducible refine Kd.C_drew ?_))); (case side2 => exact (Kd.R_reads' HO288.out).2.1); rintro e w' ⟨rfl, ⟨nd, rfl⟩⟩; refine ⟨_, rfl, ?_⟩; (try (rw [drewN_self w25]; generalize hq_ : World.drewN w25 _ = w25; have n0_ : Aside0 (Kd.R Kd.string 9 w25 w.heap.size (fun _ => True) (.slice Ao24 t282.length co24) t282) := ⟨by rw [← hq_]; exact (by (with_reducible repeat (first | apply zR | apply zV | apply zW)); exact HO284.out)⟩; have n1_ : Aside0 (Kd.R (Kd.int .i64) 2 w25 w.heap.size (fun _ => True) (.slice Ao27 y286.length co27) y286) := ⟨by rw [← hq_]; exact (by (with_reducible repeat (first | apply zR | apply zV | apply zW)); exact HO288.out)⟩; have n2_ : Aside0 (w25.heap[gb280]? = some (.cells #[.int .i64 0, .slice none 0 0] 26 (0, 0))) := ⟨by rw [← hq_]; exact (by (with_reducible repeat (first | refine zM ?_ _ | refine zP ?_ | refine zQ ?_ _)); exact BK280.out)⟩; have n3_ : Aside0 (Below w.heap.size w w25) := ⟨by rw [← hq_]; exact (by repeat (first | (with_reducible first | exact HB.out | apply zA | apply zN | apply zD | refine below_set ?_ GE280.out) | exact HB.out))⟩; clear HO284 HO288 BK280 HB hq_; have HO284 := n0_; have HO288 := n1_; have BK280 := n2_; have HB := n3_; clear n0_ n1_ n2_ n3_)); have hcz28_0 : w25.cell? ⟨gb280, 0, none⟩ = some (.int .i64 0) := (blk_cell BK280.out 0).trans rfl; have hcz28_1 : w25.cell? ⟨gb280, 1, none⟩ = some (.slice none 0 0) := (blk_cell BK280.out 1).trans rfl; have hfz28_0 := blk_frozen BK280.out 0; have hfz28_1 := blk_frozen BK280.out 1))
  refine bodyPost_ret (results_cell_row rfl _ _ gb280 26 #[.int .i64 t289, .slice none 0 0] (0, 0) _ rfl (by (with_reducible repeat (first | refine zM ?_ _ | refine zP ?_ | refine zQ ?_ _)); refine blk_put (cs := #[.int .i64 t289, .slice none 0 0]) ?_ 1 _ rfl; (with_reducible repeat (first | refine zM ?_ _ | refine zP ?_ | refine zQ ?_ _)); refine blk_put (cs := #[.int .i64 0, .slice none 0 0]) ?_ 0 _ rfl; (with_reducible repeat (first | refine zM ?_ _ | refine zP ?_ | refine zQ ?_ _)); exact BK280.out) Tryd.underlying26 rfl (by kernel_rfl)) rfl ?_
  exact ⟨_, by first | rfl | (simp [errW_none, errW_some] <;> rfl) | (simp [*, errW_none, errW_some] <;> rfl), by first | exact Kd.R_nil _ _ _ _ _ | exact Kd.N_nil _ _ _ _ _ | exact Kd.V_nil _ _ _ _ _ | exact Kd.Q_nil _ _ _ _ _ | exact Kd.S_nil _ _ _ _ _, by repeat (first | (with_reducible first | exact HB.out | apply zA | apply zN | apply zD | refine below_set ?_ GE280.out) | exact HB.out)⟩


/-! ### laws_FnExactIndexFiles: function 3 -/
def laws_FnExactIndexFiles.j0 : Nat → List (S74) → Bool → Int → List (S106) → Int → List (S106) → Option (Bool)
 | 0, _, _, _, _, _, _ => none
 | k + 1, x0, x42, x343000, x343001, x351000, x351001 => if x42 = true then (some false) else ((laws_markFilesResult.f k x351000 x351001 1).bind fun bt359 => ((laws_heldFilesResult.f k x351000 bt359.2 1).bind fun t361 => (if t361 < 0 then (some false) else (if t361 = bt359.1 then ((laws_toEntryS.f k x0).bind fun t362 => ((impl_IndexFiles.f k t362).bind fun bt365 => ((laws_eqFilesResult.f k bt365.1 bt365.2 x343000 x343001).bind fun t370 => (if t370 = true then ((laws_heldFilesResult.f k x351000 bt359.2 1).bind fun t371 => (if t371 < 0 then (some false) else (if t371 = bt359.1 then (some true) else (some false)))) else (some false))))) else (some false)))))
def laws_FnExactIndexFiles.f (k : Nat) (l0 : List (S74)) : Option (Bool) := (laws_szEntryS.f k l0 1048576).bind fun t334 => (if t334 < 0 then (some true) else ((laws_toEntryS.f k l0).bind fun t335 => ((spec_IndexFiles.f k t335).bind fun bt338 => ((laws_toEntryS.f k l0).bind fun t343 => ((impl_IndexFiles.f k t343).bind fun bt346 => ((laws_eqFilesResult.f k bt346.1 bt346.2 bt338.1 bt338.2).bind fun t351 => (if t351 = true then ((laws_toEntryS.f k l0).bind fun t352 => ((laws_eqEntryS.f k t343 t352).bind fun t355 => (if t355 = true then ((laws_markEntryS.f k t343 1).bind fun bt356 => (if bt356.1 < 0 then (laws_FnExactIndexFiles.j0 k l0 true bt338.1 bt338.2 bt346.1 bt346.2) else ((laws_eqFilesResult.f k bt346.1 bt346.2 bt338.1 bt338.2).bind fun t358 => (laws_FnExactIndexFiles.j0 k l0 (!t358) bt338.1 bt338.2 bt346.1 bt346.2)))) else (some false)))) else (some false))))))))
theorem laws_FnExactIndexFiles.mono_l : ∀ k, (∀ y0 y1 y2 y3 y4 y5, LeO (laws_FnExactIndexFiles.j0 k y0 y1 y2 y3 y4 y5) (laws_FnExactIndexFiles.j0 (k + 1) y0 y1 y2 y3 y4 y5))
 | 0 => fun _ _ _ _ _ _ r h => by simp [laws_FnExactIndexFiles.j0] at h
 | k + 1 => by
  have ih0 := laws_FnExactIndexFiles.mono_l k
  ·
   intro y0 y1 y2 y3 y4 y5
   unfold laws_FnExactIndexFiles.j0
   repeat' first
   | (with_reducible exact ih0 _ _ _ _ _ _)
   | (with_reducible exact impl_IndexFiles.mono _ _)
   | (with_reducible exact laws_eqEntryS.mono _ _ _)
   | (with_reducible exact laws_eqFilesResult.mono _ _ _ _ _)
   | (with_reducible exact laws_heldFilesResult.mono _ _ _ _)
   | (with_reducible exact laws_markEntryS.mono _ _ _)
   | (with_reducible exact laws_markFilesResult.mono _ _ _ _)
   | (with_reducible exact laws_szEntryS.mono _ _ _)
   | (with_reducible exact laws_toEntryS.mono _ _)
   | (with_reducible exact spec_IndexFiles.mono _ _)
   | (with_reducible exact LeO.refl _)
   | (with_reducible exact LeO.none _)
   | (with_reducible refine LeO.ite ?_ ?_)
   | (with_reducible refine LeO.bind ?_ (fun _ => ?_))
   | exact ih0 _ _ _ _ _ _
   | exact impl_IndexFiles.mono _ _
   | exact laws_eqEntryS.mono _ _ _
   | exact laws_eqFilesResult.mono _ _ _ _ _
   | exact laws_heldFilesResult.mono _ _ _ _
   | exact laws_markEntryS.mono _ _ _
   | exact laws_markFilesResult.mono _ _ _ _
   | exact laws_szEntryS.mono _ _ _
   | exact laws_toEntryS.mono _ _
   | exact spec_IndexFiles.mono _ _
   | exact LeO.none _
   | refine LeO.ite ?_ ?_
   | refine LeO.bind ?_ (fun _ => ?_)
theorem laws_FnExactIndexFiles.mono : ∀ a0 k, LeO (laws_FnExactIndexFiles.f k a0) (laws_FnExactIndexFiles.f (k + 1) a0) := by
 intro a0 k
 have ih0 := laws_FnExactIndexFiles.mono_l k
 unfold laws_FnExactIndexFiles.f
 repeat' first
   | (with_reducible exact ih0 _ _ _ _ _ _)
   | (with_reducible exact impl_IndexFiles.mono _ _)
   | (with_reducible exact laws_eqEntryS.mono _ _ _)
   | (with_reducible exact laws_eqFilesResult.mono _ _ _ _ _)
   | (with_reducible exact laws_heldFilesResult.mono _ _ _ _)
   | (with_reducible exact laws_markEntryS.mono _ _ _)
   | (with_reducible exact laws_markFilesResult.mono _ _ _ _)
   | (with_reducible exact laws_szEntryS.mono _ _ _)
   | (with_reducible exact laws_toEntryS.mono _ _)
   | (with_reducible exact spec_IndexFiles.mono _ _)
   | (with_reducible exact LeO.refl _)
   | (with_reducible exact LeO.none _)
   | (with_reducible refine LeO.ite ?_ ?_)
   | (with_reducible refine LeO.bind ?_ (fun _ => ?_))
   | exact ih0 _ _ _ _ _ _
   | exact impl_IndexFiles.mono _ _
   | exact laws_eqEntryS.mono _ _ _
   | exact laws_eqFilesResult.mono _ _ _ _ _
   | exact laws_heldFilesResult.mono _ _ _ _
   | exact laws_markEntryS.mono _ _ _
   | exact laws_markFilesResult.mono _ _ _ _
   | exact laws_szEntryS.mono _ _ _
   | exact laws_toEntryS.mono _ _
   | exact spec_IndexFiles.mono _ _
   | exact LeO.none _
   | refine LeO.ite ?_ ?_
   | refine LeO.bind ?_ (fun _ => ?_)
set_option maxHeartbeats 8000000 in
set_option maxRecDepth 100000 in
theorem laws_FnExactIndexFiles.calls (k : Nat) (A0 : Option Addr) (c0 : Nat) (l0 : List (S74)) (r : Bool) (w : World) (hr0 : Kd.C k74 w A0 l0.length l0) (hc0 : l0.length ≤ c0) (h : laws_FnExactIndexFiles.f k l0 = some r) (hT_ : r = true := by rfl) :
  Calls Tryd.prog 3 #[.slice A0 l0.length c0] w fun e w' => e = .returned (.bool r) ∧ Below w.heap.size w w' := by
 have hu26 := Tryd.underlying26
 have HR0 := zK hr0
 have HC0 := zK hc0
 clear hr0 hc0
 have HB := zK (Below.refl w.heap.size w)
 have H : ((laws_szEntryS.f k l0 1048576).bind fun t334 => (if t334 < 0 then (some true) else ((laws_toEntryS.f k l0).bind fun t335 => ((spec_IndexFiles.f k t335).bind fun bt338 => ((laws_toEntryS.f k l0).bind fun t343 => ((impl_IndexFiles.f k t343).bind fun bt346 => ((laws_eqFilesResult.f k bt346.1 bt346.2 bt338.1 bt338.2).bind fun t351 => (if t351 = true then ((laws_toEntryS.f k l0).bind fun t352 => ((laws_eqEntryS.f k t343 t352).bind fun t355 => (if t355 = true then ((laws_markEntryS.f k t343 1).bind fun bt356 => (if bt356.1 < 0 then (laws_FnExactIndexFiles.j0 k l0 true bt338.1 bt338.2 bt346.1 bt346.2) else ((laws_eqFilesResult.f k bt346.1 bt346.2 bt338.1 bt338.2).bind fun t358 => (laws_FnExactIndexFiles.j0 k l0 (!t358) bt338.1 bt338.2 bt346.1 bt346.2)))) else (some false)))) else (some false))))))))) = some r := h
 clear h
 replace H := Option.bind_eq_some_iff.mp H
 obtain ⟨t334, A20, H⟩ := H
 replace H : (if t334 < 0 then (some true) else ((laws_toEntryS.f k l0).bind fun t335 => ((spec_IndexFiles.f k t335).bind fun bt338 => ((laws_toEntryS.f k l0).bind fun t343 => ((impl_IndexFiles.f k t343).bind fun bt346 => ((laws_eqFilesResult.f k bt346.1 bt346.2 bt338.1 bt338.2).bind fun t351 => (if t351 = true then ((laws_toEntryS.f k l0).bind fun t352 => ((laws_eqEntryS.f k t343 t352).bind fun t355 => (if t355 = true then ((laws_markEntryS.f k t343 1).bind fun bt356 => (if bt356.1 < 0 then (laws_FnExactIndexFiles.j0 k l0 true bt338.1 bt338.2 bt346.1 bt346.2) else ((laws_eqFilesResult.f k bt346.1 bt346.2 bt338.1 bt338.2).bind fun t358 => (laws_FnExactIndexFiles.j0 k l0 (!t358) bt338.1 bt338.2 bt346.1 bt346.2)))) else (some false)))) else (some false)))))))) = some r := H
 have A2 := zK A20
 clear A20
 by_cases c3 : t334 < 0
 ·
  rw [if_pos c3] at H
  have c3b0 : decide (t334 < 0) = true := decide_eq_true c3
  clear c3
  obtain rfl := Option.some.inj H
  go_enter Tryd.func3, Tryd.ntmps3
  go_wp2_with (first | ((with_reducible refine gate_callee (f := 9) rfl ?_); refine goesL_ (some 13) rfl rfl Tryd.func9 (by kernel_rfl) rfl #[.slice A0 l0.length c0, .int .i64 1048576] rfl (by (try simp only [List.map_toArray, List.map_cons, List.map_nil]); first | done | rfl | (simp only [List.length_drop, List.length_take]; rfl)) ?_; (with_reducible refine (laws_szEntryS.calls k _ _ l0 1048576 t334 _ ?side1 ?side2 A2.out).mono ?_); (case side1 => repeat (first | exact HR0.out | (with_reducible refine Kd.C_alloc ?_ _) | (with_reducible refine Kd.C_drewN ?_ _) | (with_reducible refine Kd.C_drew ?_))); (case side2 => exact HC0.out); rintro e w4 ⟨rfl, hb⟩; refine ⟨_, rfl, ?_⟩; have n0_ := zK (below_step (by repeat (first | (with_reducible first | exact HB.out | apply zA | apply zN | apply zD) | exact HB.out)) hb); clear HB; have HB := n0_; clear n0_; (try clear hb); (try clear hb2); (try clear hk); (try clear hi)))
  go_ret
  exact ⟨by first | rfl | (simp [errW_none, errW_some] <;> rfl) | (simp [*, errW_none, errW_some] <;> rfl), by repeat (first | (with_reducible first | exact HB.out | apply zA | apply zN | apply zD) | exact HB.out)⟩
 ·
  rw [if_neg c3] at H
  have c3b0 : decide (t334 < 0) = false := decide_eq_false c3
  clear c3
  replace H := Option.bind_eq_some_iff.mp H
  obtain ⟨t335, A50, H⟩ := H
  replace H : ((spec_IndexFiles.f k t335).bind fun bt338 => ((laws_toEntryS.f k l0).bind fun t343 => ((impl_IndexFiles.f k t343).bind fun bt346 => ((laws_eqFilesResult.f k bt346.1 bt346.2 bt338.1 bt338.2).bind fun t351 => (if t351 = true then ((laws_toEntryS.f k l0).bind fun t352 => ((laws_eqEntryS.f k t343 t352).bind fun t355 => (if t355 = true then ((laws_markEntryS.f k t343 1).bind fun bt356 => (if bt356.1 < 0 then (laws_FnExactIndexFiles.j0 k l0 true bt338.1 bt338.2 bt346.1 bt346.2) else ((laws_eqFilesResult.f k bt346.1 bt346.2 bt338.1 bt338.2).bind fun t358 => (laws_FnExactIndexFiles.j0 k l0 (!t358) bt338.1 bt338.2 bt346.1 bt346.2)))) else (some false)))) else (some false)))))) = some r := H
  have A5 := zK A50
  clear A50
  replace H := Option.bind_eq_some_iff.mp H
  obtain ⟨⟨t338, t339⟩, A60, H⟩ := H
  replace H : ((laws_toEntryS.f k l0).bind fun t343 => ((impl_IndexFiles.f k t343).bind fun bt346 => ((laws_eqFilesResult.f k bt346.1 bt346.2 t338 t339).bind fun t351 => (if t351 = true then ((laws_toEntryS.f k l0).bind fun t352 => ((laws_eqEntryS.f k t343 t352).bind fun t355 => (if t355 = true then ((laws_markEntryS.f k t343 1).bind fun bt356 => (if bt356.1 < 0 then (laws_FnExactIndexFiles.j0 k l0 true t338 t339 bt346.1 bt346.2) else ((laws_eqFilesResult.f k bt346.1 bt346.2 t338 t339).bind fun t358 => (laws_FnExactIndexFiles.j0 k l0 (!t358) t338 t339 bt346.1 bt346.2)))) else (some false)))) else (some false))))) = some r := H
  have A6 := zK A60
  clear A60
  replace H := Option.bind_eq_some_iff.mp H
  obtain ⟨t343, A70, H⟩ := H
  replace H : ((impl_IndexFiles.f k t343).bind fun bt346 => ((laws_eqFilesResult.f k bt346.1 bt346.2 t338 t339).bind fun t351 => (if t351 = true then ((laws_toEntryS.f k l0).bind fun t352 => ((laws_eqEntryS.f k t343 t352).bind fun t355 => (if t355 = true then ((laws_markEntryS.f k t343 1).bind fun bt356 => (if bt356.1 < 0 then (laws_FnExactIndexFiles.j0 k l0 true t338 t339 bt346.1 bt346.2) else ((laws_eqFilesResult.f k bt346.1 bt346.2 t338 t339).bind fun t358 => (laws_FnExactIndexFiles.j0 k l0 (!t358) t338 t339 bt346.1 bt346.2)))) else (some false)))) else (some false)))) = some r := H
  have A7 := zK A70
  clear A70
  replace H := Option.bind_eq_some_iff.mp H
  obtain ⟨⟨t346, t347⟩, A80, H⟩ := H
  replace H : ((laws_eqFilesResult.f k t346 t347 t338 t339).bind fun t351 => (if t351 = true then ((laws_toEntryS.f k l0).bind fun t352 => ((laws_eqEntryS.f k t343 t352).bind fun t355 => (if t355 = true then ((laws_markEntryS.f k t343 1).bind fun bt356 => (if bt356.1 < 0 then (laws_FnExactIndexFiles.j0 k l0 true t338 t339 t346 t347) else ((laws_eqFilesResult.f k t346 t347 t338 t339).bind fun t358 => (laws_FnExactIndexFiles.j0 k l0 (!t358) t338 t339 t346 t347)))) else (some false)))) else (some false))) = some r := H
  have A8 := zK A80
  clear A80
  replace H := Option.bind_eq_some_iff.mp H
  obtain ⟨t351, A90, H⟩ := H
  replace H : (if t351 = true then ((laws_toEntryS.f k l0).bind fun t352 => ((laws_eqEntryS.f k t343 t352).bind fun t355 => (if t355 = true then ((laws_markEntryS.f k t343 1).bind fun bt356 => (if bt356.1 < 0 then (laws_FnExactIndexFiles.j0 k l0 true t338 t339 t346 t347) else ((laws_eqFilesResult.f k t346 t347 t338 t339).bind fun t358 => (laws_FnExactIndexFiles.j0 k l0 (!t358) t338 t339 t346 t347)))) else (some false)))) else (some false)) = some r := H
  have A9 := zK A90
  clear A90
  by_cases c10 : t351 = true
  ·
   subst c10
   have H1 : ((laws_toEntryS.f k l0).bind fun t352 => ((laws_eqEntryS.f k t343 t352).bind fun t355 => (if t355 = true then ((laws_markEntryS.f k t343 1).bind fun bt356 => (if bt356.1 < 0 then (laws_FnExactIndexFiles.j0 k l0 true t338 t339 t346 t347) else ((laws_eqFilesResult.f k t346 t347 t338 t339).bind fun t358 => (laws_FnExactIndexFiles.j0 k l0 (!t358) t338 t339 t346 t347)))) else (some false)))) = some r := by rw [if_pos rfl] at H; exact H
   clear H
   have H := H1
   clear H1
   replace H := Option.bind_eq_some_iff.mp H
   obtain ⟨t352, A110, H⟩ := H
   replace H : ((laws_eqEntryS.f k t343 t352).bind fun t355 => (if t355 = true then ((laws_markEntryS.f k t343 1).bind fun bt356 => (if bt356.1 < 0 then (laws_FnExactIndexFiles.j0 k l0 true t338 t339 t346 t347) else ((laws_eqFilesResult.f k t346 t347 t338 t339).bind fun t358 => (laws_FnExactIndexFiles.j0 k l0 (!t358) t338 t339 t346 t347)))) else (some false))) = some r := H
   have A11 := zK A110
   clear A110
   replace H := Option.bind_eq_some_iff.mp H
   obtain ⟨t355, A120, H⟩ := H
   replace H : (if t355 = true then ((laws_markEntryS.f k t343 1).bind fun bt356 => (if bt356.1 < 0 then (laws_FnExactIndexFiles.j0 k l0 true t338 t339 t346 t347) else ((laws_eqFilesResult.f k t346 t347 t338 t339).bind fun t358 => (laws_FnExactIndexFiles.j0 k l0 (!t358) t338 t339 t346 t347)))) else (some false)) = some r := H
   have A12 := zK A120
   clear A120
   by_cases c13 : t355 = true
   ·
    subst c13
    have H1 : ((laws_markEntryS.f k t343 1).bind fun bt356 => (if bt356.1 < 0 then (laws_FnExactIndexFiles.j0 k l0 true t338 t339 t346 t347) else ((laws_eqFilesResult.f k t346 t347 t338 t339).bind fun t358 => (laws_FnExactIndexFiles.j0 k l0 (!t358) t338 t339 t346 t347)))) = some r := by rw [if_pos rfl] at H; exact H
    clear H
    have H := H1
    clear H1
    replace H := Option.bind_eq_some_iff.mp H
    obtain ⟨⟨t356, t357⟩, A140, H⟩ := H
    replace H : (if t356 < 0 then (laws_FnExactIndexFiles.j0 k l0 true t338 t339 t346 t347) else ((laws_eqFilesResult.f k t346 t347 t338 t339).bind fun t358 => (laws_FnExactIndexFiles.j0 k l0 (!t358) t338 t339 t346 t347))) = some r := H
    have A14 := zK A140
    clear A140
    have HC15 := zK H
    clear H
    go_enter Tryd.func3, Tryd.ntmps3
    go_upto_region 14 with (first | ((with_reducible refine gate_callee (f := 9) rfl ?_); refine goesL_ (some 13) rfl rfl Tryd.func9 (by kernel_rfl) rfl #[.slice A0 l0.length c0, .int .i64 1048576] rfl (by (try simp only [List.map_toArray, List.map_cons, List.map_nil]); first | done | rfl | (simp only [List.length_drop, List.length_take]; rfl)) ?_; (with_reducible refine (laws_szEntryS.calls k _ _ l0 1048576 t334 _ ?side1 ?side2 A2.out).mono ?_); (case side1 => repeat (first | exact HR0.out | (with_reducible refine Kd.C_alloc ?_ _) | (with_reducible refine Kd.C_drewN ?_ _) | (with_reducible refine Kd.C_drew ?_))); (case side2 => exact HC0.out); rintro e w16 ⟨rfl, hb⟩; refine ⟨_, rfl, ?_⟩; have n0_ := zK (below_step (by repeat (first | (with_reducible first | exact HB.out | apply zA | apply zN | apply zD) | exact HB.out)) hb); clear HB; have HB := n0_; clear n0_; (try clear hb); (try clear hb2); (try clear hk); (try clear hi)) | ((with_reducible refine gate_callee (f := 11) rfl ?_); refine goesL_ (some 17) rfl rfl Tryd.func11 (by kernel_rfl) rfl #[.slice A0 l0.length c0] rfl (by (try simp only [List.map_toArray, List.map_cons, List.map_nil]); first | done | rfl | (simp only [List.length_drop, List.length_take]; rfl)) ?_; (with_reducible refine (laws_toEntryS.calls k _ _ l0 t335 _ ?side1 ?side2 A5.out).mono ?_); (case side1 => repeat (first | exact (Kd.C_below HR0.out HB.out) | (with_reducible refine Kd.C_alloc ?_ _) | (with_reducible refine Kd.C_drewN ?_ _) | (with_reducible refine Kd.C_drew ?_))); (case side2 => exact HC0.out); rintro e w17 ⟨v336, rfl, ho0, hb⟩; refine ⟨_, rfl, ?_⟩; have n0_ := zK (Kd.R_lower ho0 (below_size (by repeat (first | (with_reducible first | exact HB.out | apply zA | apply zN | apply zD) | exact HB.out)))); have n1_ := zK (below_step (by repeat (first | (with_reducible first | exact HB.out | apply zA | apply zN | apply zD) | exact HB.out)) hb); clear HB; have HO337 := n0_; have HB := n1_; clear n0_ n1_; (try clear hb); (try clear hb2); (try clear hk); (try clear hi); (try clear ho0); obtain ⟨Ao18, co18, eo18⟩ := Kd.R_slice HO337.out; subst eo18) | ((with_reducible refine gate_callee (f := 10) rfl ?_); refine goesL_ (some 18) rfl rfl Tryd.func10 (by kernel_rfl) rfl #[.slice Ao18 t335.length co18] rfl (by (try simp only [List.map_toArray, List.map_cons, List.map_nil]); first | done | rfl | (simp only [List.length_drop, List.length_take]; rfl)) ?_; (with_reducible refine (spec_IndexFiles.calls k _ _ t335 t338 t339 _ ?side1 ?side2 A6.out).mono ?_); (case side1 => repeat (first | exact (Kd.R_reads' HO337.out).2.2 | (with_reducible refine Kd.C_alloc ?_ _) | (with_reducible refine Kd.C_drewN ?_ _) | (with_reducible refine Kd.C_drew ?_))); (case side2 => exact (Kd.R_reads' HO337.out).2.1); rintro e w19 ⟨v340, rfl, ho0, hb⟩; refine ⟨_, rfl, ?_⟩; have n0_ := zK (Kd.R_below (by (with_reducible repeat (first | apply zR | apply zV | apply zW)); exact HO337.out) hb); have n1_ := zK (Kd.R_lower ho0 (below_size (by repeat (first | (with_reducible first | exact HB.out | apply zA | apply zN | apply zD) | exact HB.out)))); have n2_ := zK (below_step (by repeat (first | (with_reducible first | exact HB.out | apply zA | apply zN | apply zD) | exact HB.out)) hb); clear HO337; clear HB; have HO337 := n0_; have HO341 := n1_; have HB := n2_; clear n0_ n1_ n2_; (try clear hb); (try clear hb2); (try clear hk); (try clear hi); (try clear ho0)) | ((with_reducible refine gate_dst (N := 4) rfl ?_); refine box_event ?hg (N := 4) ?hd (cs := #[.int .i64 0, .slice none 0 0]) (t := 26) ?hr ?_; (case hd => rfl); (case hg => rfl); (case hr => first | (go_simp; done) | (go_simp; rfl)); intro gb342 hg w20 hbox hb; have n0_ := zK (Kd.R_below (by (with_reducible repeat (first | apply zR | apply zV | apply zW)); exact HO337.out) hb); have n1_ := zK (Kd.R_below (by (with_reducible repeat (first | apply zR | apply zV | apply zW)); exact HO341.out) hb); have n2_ := zK (below_step (by repeat (first | (with_reducible first | exact HB.out | apply zA | apply zN | apply zD) | exact HB.out)) hb); have n3_ := zK (hbox); have n4_ := zK ((by rw [hg]; exact (below_size (by repeat (first | (with_reducible first | exact HB.out | apply zA | apply zN | apply zD) | exact HB.out))) : w.heap.size ≤ gb342)); have n5_ := zK ((by rw [hg]; exact (below_size (by repeat (first | (with_reducible first | exact HB.out | apply zA | apply zN | apply zD) | exact HB.out))) : w.heap.size ≤ gb342)); clear HO337; clear HO341; clear HB; have HO337 := n0_; have HO341 := n1_; have HB := n2_; have BK342 := n3_; have GW342 := n4_; have GE342 := n5_; clear n0_ n1_ n2_ n3_ n4_ n5_; clear hb hbox hg; have hcz21_0 : w20.cell? ⟨gb342, 0, none⟩ = some (.int .i64 0) := (blk_cell BK342.out 0).trans rfl; have hcz21_1 : w20.cell? ⟨gb342, 1, none⟩ = some (.slice none 0 0) := (blk_cell BK342.out 1).trans rfl; have hfz21_0 := blk_frozen BK342.out 0; have hfz21_1 := blk_frozen BK342.out 1; obtain ⟨Ao22, co22, eo22⟩ := Kd.R_slice HO341.out; subst eo22) | ((with_reducible refine gate_callee (f := 11) rfl ?_); refine goesL_ (some 20) rfl rfl Tryd.func11 (by kernel_rfl) rfl #[.slice A0 l0.length c0] rfl (by (try simp only [List.map_toArray, List.map_cons, List.map_nil]); first | done | rfl | (simp only [List.length_drop, List.length_take]; rfl)) ?_; (with_reducible refine (laws_toEntryS.calls k _ _ l0 t343 _ ?side1 ?side2 A7.out).mono ?_); (case side1 => exact Kd.C_below HR0.out (by repeat (first | (with_reducible first | exact HB.out | apply zA | apply zN | apply zD | refine below_set ?_ GE342.out) | exact HB.out))); (case side2 => exact HC0.out); rintro e w23 ⟨v344, rfl, ho0, hb⟩; refine ⟨_, rfl, ?_⟩; have n0_ := zK (Kd.R_elder' (by (with_reducible repeat (first | apply zR | apply zV | apply zW)); exact (Kd.R_mono (Kd.R_far (p := ⟨gb342, 1, none⟩) (Kd.R_far (p := ⟨gb342, 0, none⟩) (Kd.R_types HO337.out BK342.out (by decide)) (fun _ hk => hk.2) (.int .i64 t338)) (fun _ hk => hk.2) (.slice Ao22 t339.length co22)) (fun _ h_ => h_.1))) (Kd.R_base ho0) hb); have n1_ := zK (Kd.R_below (by (with_reducible repeat (first | apply zR | apply zV | apply zW)); exact (Kd.R_mono (Kd.R_far (p := ⟨gb342, 1, none⟩) (Kd.R_far (p := ⟨gb342, 0, none⟩) (Kd.R_types HO341.out BK342.out (by decide)) (fun _ hk => hk.2) (.int .i64 t338)) (fun _ hk => hk.2) (.slice Ao22 t339.length co22)) (fun _ h_ => h_.1))) hb); have n2_ := zK (Kd.R_lower (Kd.R_new' ho0 (Kd.R_lt (by (with_reducible repeat (first | apply zR | apply zV | apply zW)); exact (Kd.R_mono (Kd.R_far (p := ⟨gb342, 1, none⟩) (Kd.R_far (p := ⟨gb342, 0, none⟩) (Kd.R_types HO337.out BK342.out (by decide)) (fun _ hk => hk.2) (.int .i64 t338)) (fun _ hk => hk.2) (.slice Ao22 t339.length co22)) (fun _ h_ => h_.1))))) (below_size (by repeat (first | (with_reducible first | exact HB.out | apply zA | apply zN | apply zD | refine below_set ?_ GE342.out) | exact HB.out)))); have n3_ := zK (blk_below (g := gb342) (o := .cells #[.int .i64 t338, .slice Ao22 t339.length co22] 26 (0, 0)) (by (with_reducible repeat (first | refine zM ?_ _ | refine zP ?_ | refine zQ ?_ _)); refine blk_put (cs := #[.int .i64 t338, .slice none 0 0]) ?_ 1 _ rfl; (with_reducible repeat (first | refine zM ?_ _ | refine zP ?_ | refine zQ ?_ _)); refine blk_put (cs := #[.int .i64 0, .slice none 0 0]) ?_ 0 _ rfl; (with_reducible repeat (first | refine zM ?_ _ | refine zP ?_ | refine zQ ?_ _)); exact BK342.out) hb); have n4_ := zK (below_step (by repeat (first | (with_reducible first | exact HB.out | apply zA | apply zN | apply zD | refine below_set ?_ GE342.out) | exact HB.out)) hb); clear HO337; clear HO341; clear BK342; clear HB; have HO337 := n0_; have HO341 := n1_; have HO345 := n2_; have BK342 := n3_; have HB := n4_; clear n0_ n1_ n2_ n3_ n4_; (try clear hb); (try clear hb2); (try clear hk); (try clear hi); (try clear ho0); obtain ⟨Ao24, co24, eo24⟩ := Kd.R_slice HO345.out; subst eo24) | ((with_reducible refine gate_callee (f := 12) rfl ?_); refine goesL_ (some 22) rfl rfl Tryd.func12 (by kernel_rfl) rfl #[.slice Ao24 t343.length co24] rfl (by (try simp only [List.map_toArray, List.map_cons, List.map_nil]); first | done | rfl | (simp only [List.length_drop, List.length_take]; rfl)) ?_; (with_reducible refine (impl_IndexFiles.calls k _ _ t343 t346 t347 _ ?side1 ?side2 A8.out).mono ?_); (case side1 => repeat (first | exact (Kd.R_reads' HO345.out).2.2 | (with_reducible refine Kd.C_alloc ?_ _) | (with_reducible refine Kd.C_drewN ?_ _) | (with_reducible refine Kd.C_drew ?_))); (case side2 => exact (Kd.R_reads' HO345.out).2.1); rintro e w25 ⟨v348, rfl, ho0, hb⟩; refine ⟨_, rfl, ?_⟩; have n0_ := zK (Kd.R_below (by (with_reducible repeat (first | apply zR | apply zV | apply zW)); exact HO337.out) hb); have n1_ := zK (Kd.R_elder' (by (with_reducible repeat (first | apply zR | apply zV | apply zW)); exact HO341.out) (Kd.R_base ho0) hb); have n2_ := zK (Kd.R_below (by (with_reducible repeat (first | apply zR | apply zV | apply zW)); exact HO345.out) hb); have n3_ := zK (Kd.R_lower (Kd.R_new' ho0 (Kd.R_lt (by (with_reducible repeat (first | apply zR | apply zV | apply zW)); exact HO341.out))) (below_size (by repeat (first | (with_reducible first | exact HB.out | apply zA | apply zN | apply zD | refine below_set ?_ GE342.out) | exact HB.out)))); have n4_ := zK (blk_below (g := gb342) (o := .cells #[.int .i64 t338, .slice Ao22 t339.length co22] 26 (0, 0)) (by (with_reducible repeat (first | refine zM ?_ _ | refine zP ?_ | refine zQ ?_ _)); exact BK342.out) hb); have n5_ := zK (below_step (by repeat (first | (with_reducible first | exact HB.out | apply zA | apply zN | apply zD | refine below_set ?_ GE342.out) | exact HB.out)) hb); clear HO337; clear HO341; clear HO345; clear BK342; clear HB; have HO337 := n0_; have HO341 := n1_; have HO345 := n2_; have HO349 := n3_; have BK342 := n4_; have HB := n5_; clear n0_ n1_ n2_ n3_ n4_ n5_; (try clear hb); (try clear hb2); (try clear hk); (try clear hi); (try clear ho0)) | ((with_reducible refine gate_dst (N := 6) rfl ?_); refine box_event ?hg (N := 6) ?hd (cs := #[.int .i64 0, .slice none 0 0]) (t := 26) ?hr ?_; (case hd => rfl); (case hg => rfl); (case hr => first | (go_simp; done) | (go_simp; rfl)); intro gb350 hg w26 hbox hb; have n0_ := zK (Kd.R_below (by (with_reducible repeat (first | apply zR | apply zV | apply zW)); exact HO337.out) hb); have n1_ := zK (Kd.R_below (by (with_reducible repeat (first | apply zR | apply zV | apply zW)); exact HO341.out) hb); have n2_ := zK (Kd.R_below (by (with_reducible repeat (first | apply zR | apply zV | apply zW)); exact HO345.out) hb); have n3_ := zK (Kd.R_below (by (with_reducible repeat (first | apply zR | apply zV | apply zW)); exact HO349.out) hb); have n4_ := zK (blk_below (g := gb342) (o := .cells #[.int .i64 t338, .slice Ao22 t339.length co22] 26 (0, 0)) (by (with_reducible repeat (first | refine zM ?_ _ | refine zP ?_ | refine zQ ?_ _)); exact BK342.out) hb); have n5_ := zK (below_step (by repeat (first | (with_reducible first | exact HB.out | apply zA | apply zN | apply zD | refine below_set ?_ GE342.out) | exact HB.out)) hb); have n6_ := zK (hbox); have n7_ := zK ((by rw [hg]; exact (below_size (by repeat (first | (with_reducible first | exact HB.out | apply zA | apply zN | apply zD | refine below_set ?_ GE342.out) | exact HB.out))) : w.heap.size ≤ gb350)); have n8_ := zK ((by rw [hg]; exact (below_size (by repeat (first | (with_reducible first | exact HB.out | apply zA | apply zN | apply zD | refine below_set ?_ GE342.out) | exact HB.out))) : w.heap.size ≤ gb350)); have n9_ := zK ((by rw [hg]; exact Nat.ne_of_lt (blk_lt (g := gb342) (o := .cells #[.int .i64 t338, .slice Ao22 t339.length co22] 26 (0, 0)) (by (with_reducible repeat (first | refine zM ?_ _ | refine zP ?_ | refine zQ ?_ _)); exact BK342.out)) : gb342 ≠ gb350)); have n10_ := zK ((by rw [hg]; exact Nat.ne_of_gt (blk_lt (g := gb342) (o := .cells #[.int .i64 t338, .slice Ao22 t339.length co22] 26 (0, 0)) (by (with_reducible repeat (first | refine zM ?_ _ | refine zP ?_ | refine zQ ?_ _)); exact BK342.out)) : gb350 ≠ gb342)); clear HO337; clear HO341; clear HO345; clear HO349; clear BK342; clear HB; have HO337 := n0_; have HO341 := n1_; have HO345 := n2_; have HO349 := n3_; have BK342 := n4_; have HB := n5_; have BK350 := n6_; have GW350 := n7_; have GE350 := n8_; have NB342_350 := n9_; have NB350_342 := n10_; clear n0_ n1_ n2_ n3_ n4_ n5_ n6_ n7_ n8_ n9_ n10_; clear hb hbox hg; have hnb27 := NB350_342.out; have hnc27 := NB342_350.out; have hcz28_0 : w26.cell? ⟨gb350, 0, none⟩ = some (.int .i64 0) := (blk_cell BK350.out 0).trans rfl; have hcz28_1 : w26.cell? ⟨gb350, 1, none⟩ = some (.slice none 0 0) := (blk_cell BK350.out 1).trans rfl; have hfz28_0 := blk_frozen BK350.out 0; have hfz28_1 := blk_frozen BK350.out 1; obtain ⟨Ao29, co29, eo29⟩ := Kd.R_slice HO349.out; subst eo29; have hcz30_0 : w26.cell? ⟨gb342, 0, none⟩ = some (.int .i64 t338) := (blk_cell BK342.out 0).trans rfl; have hcz30_1 : w26.cell? ⟨gb342, 1, none⟩ = some (.slice Ao22 t339.length co22) := (blk_cell BK342.out 1).trans rfl; have hfz30_0 := blk_frozen BK342.out 0; have hfz30_1 := blk_frozen BK342.out 1) | ((with_reducible refine gate_callee (f := 13) rfl ?_); refine goesL_ (some 25) rfl rfl Tryd.func13 (by kernel_rfl) rfl #[.agg #[.int .i64 t346, .slice Ao29 t347.length co29], .agg #[.int .i64 t338, .slice Ao22 t339.length co22]] rfl (by (try simp only [List.map_toArray, List.map_cons, List.map_nil]); first | done | rfl | (simp only [List.length_drop, List.length_take]; rfl)) ?_; (with_reducible refine (laws_eqFilesResult.calls k t346 _ _ t347 t338 _ _ t339 true _ ?side1 ?side2 ?side3 ?side4 A9.out).mono ?_); (case side1 => refine (Kd.R_reads' (e := 106) (base := w.heap.size) (ok := fun k_ => (True ∧ some k_ ≠ (.slice Ao22 t339.length co22 : Value).ownBlock)) (n := t347.length) (c := co29) ?_).2.2; exact (by (with_reducible repeat (first | apply zR | apply zV | apply zW)); exact (Kd.R_mono (Kd.R_far (p := ⟨gb350, 1, none⟩) (Kd.R_far (p := ⟨gb350, 0, none⟩) (Kd.R_types HO349.out BK350.out (by decide)) (fun _ hk => hk.2) (.int .i64 t346)) (fun _ hk => hk.2) (.slice Ao29 t347.length co29)) (fun _ h_ => h_.1)))); (case side2 => exact (Kd.R_reads' HO349.out).2.1); (case side3 => refine (Kd.R_reads' (e := 106) (base := w.heap.size) (ok := fun k_ => (True ∧ some k_ ≠ (.slice Ao29 t347.length co29 : Value).ownBlock)) (n := t339.length) (c := co22) ?_).2.2; exact (by (with_reducible repeat (first | apply zR | apply zV | apply zW)); exact (Kd.R_mono (Kd.R_far (p := ⟨gb350, 1, none⟩) (Kd.R_far (p := ⟨gb350, 0, none⟩) (Kd.R_types HO341.out BK350.out (by decide)) (fun _ hk => hk.2) (.int .i64 t346)) (fun _ hk => hk.2) (.slice Ao29 t347.length co29)) (fun _ h_ => h_.1)))); (case side4 => exact (Kd.R_reads' HO341.out).2.1); rintro e w31 ⟨rfl, hb⟩; refine ⟨_, rfl, ?_⟩; have n0_ := zK (Kd.R_below (by (with_reducible repeat (first | apply zR | apply zV | apply zW)); exact (Kd.R_mono (Kd.R_far (p := ⟨gb350, 1, none⟩) (Kd.R_far (p := ⟨gb350, 0, none⟩) (Kd.R_types HO337.out BK350.out (by decide)) (fun _ hk => hk.2) (.int .i64 t346)) (fun _ hk => hk.2) (.slice Ao29 t347.length co29)) (fun _ h_ => h_.1))) hb); have n1_ := zK (Kd.R_below (by (with_reducible repeat (first | apply zR | apply zV | apply zW)); exact (Kd.R_mono (Kd.R_far (p := ⟨gb350, 1, none⟩) (Kd.R_far (p := ⟨gb350, 0, none⟩) (Kd.R_types HO341.out BK350.out (by decide)) (fun _ hk => hk.2) (.int .i64 t346)) (fun _ hk => hk.2) (.slice Ao29 t347.length co29)) (fun _ h_ => h_.1))) hb); have n2_ := zK (Kd.R_below (by (with_reducible repeat (first | apply zR | apply zV | apply zW)); exact (Kd.R_mono (Kd.R_far (p := ⟨gb350, 1, none⟩) (Kd.R_far (p := ⟨gb350, 0, none⟩) (Kd.R_types HO345.out BK350.out (by decide)) (fun _ hk => hk.2) (.int .i64 t346)) (fun _ hk => hk.2) (.slice Ao29 t347.length co29)) (fun _ h_ => h_.1))) hb); have n3_ := zK (Kd.R_below (by (with_reducible repeat (first | apply zR | apply zV | apply zW)); exact (Kd.R_mono (Kd.R_far (p := ⟨gb350, 1, none⟩) (Kd.R_far (p := ⟨gb350, 0, none⟩) (Kd.R_types HO349.out BK350.out (by decide)) (fun _ hk => hk.2) (.int .i64 t346)) (fun _ hk => hk.2) (.slice Ao29 t347.length co29)) (fun _ h_ => h_.1))) hb); have n4_ := zK (blk_below (g := gb342) (o := .cells #[.int .i64 t338, .slice Ao22 t339.length co22] 26 (0, 0)) (by (with_reducible repeat (first | refine zM ?_ _ | refine zP ?_ | refine zQ ?_ _)); refine blk_far ?_ NB342_350.out _; (with_reducible repeat (first | refine zM ?_ _ | refine zP ?_ | refine zQ ?_ _)); refine blk_far ?_ NB342_350.out _; (with_reducible repeat (first | refine zM ?_ _ | refine zP ?_ | refine zQ ?_ _)); exact BK342.out) hb); have n5_ := zK (blk_below (g := gb350) (o := .cells #[.int .i64 t346, .slice Ao29 t347.length co29] 26 (0, 0)) (by (with_reducible repeat (first | refine zM ?_ _ | refine zP ?_ | refine zQ ?_ _)); refine blk_put (cs := #[.int .i64 t346, .slice none 0 0]) ?_ 1 _ rfl; (with_reducible repeat (first | refine zM ?_ _ | refine zP ?_ | refine zQ ?_ _)); refine blk_put (cs := #[.int .i64 0, .slice none 0 0]) ?_ 0 _ rfl; (with_reducible repeat (first | refine zM ?_ _ | refine zP ?_ | refine zQ ?_ _)); exact BK350.out) hb); have n6_ := zK (below_step (by repeat (first | (with_reducible first | exact HB.out | apply zA | apply zN | apply zD | refine below_set ?_ GE342.out | refine below_set ?_ GE350.out) | exact HB.out)) hb); clear HO337; clear HO341; clear HO345; clear HO349; clear BK342; clear BK350; clear HB; have HO337 := n0_; have HO341 := n1_; have HO345 := n2_; have HO349 := n3_; have BK342 := n4_; have BK350 := n5_; have HB := n6_; clear n0_ n1_ n2_ n3_ n4_ n5_ n6_; (try clear hb); (try clear hb2); (try clear hk); (try clear hi)) | ((with_reducible refine gate_callee (f := 11) rfl ?_); refine goesL_ (some 29) rfl rfl Tryd.func11 (by kernel_rfl) rfl #[.slice A0 l0.length c0] rfl (by (try simp only [List.map_toArray, List.map_cons, List.map_nil]); first | done | rfl | (simp only [List.length_drop, List.length_take]; rfl)) ?_; (with_reducible refine (laws_toEntryS.calls k _ _ l0 t352 _ ?side1 ?side2 A11.out).mono ?_); (case side1 => repeat (first | exact (Kd.C_below HR0.out HB.out) | (with_reducible refine Kd.C_alloc ?_ _) | (with_reducible refine Kd.C_drewN ?_ _) | (with_reducible refine Kd.C_drew ?_))); (case side2 => exact HC0.out); rintro e w32 ⟨v353, rfl, ho0, hb⟩; refine ⟨_, rfl, ?_⟩; have n0_ := zK (Kd.R_elder' (by (with_reducible repeat (first | apply zR | apply zV | apply zW)); exact HO337.out) (Kd.R_base ho0) hb); have n1_ := zK (Kd.R_below (by (with_reducible repeat (first | apply zR | apply zV | apply zW)); exact HO341.out) hb); have n2_ := zK (Kd.R_elder' (by (with_reducible repeat (first | apply zR | apply zV | apply zW)); exact HO345.out) (Kd.R_base ho0) hb); have n3_ := zK (Kd.R_below (by (with_reducible repeat (first | apply zR | apply zV | apply zW)); exact HO349.out) hb); have n4_ := zK (Kd.R_lower (Kd.R_new' (Kd.R_new' ho0 (Kd.R_lt (by (with_reducible repeat (first | apply zR | apply zV | apply zW)); exact HO337.out))) (Kd.R_lt (by (with_reducible repeat (first | apply zR | apply zV | apply zW)); exact HO345.out))) (below_size (by repeat (first | (with_reducible first | exact HB.out | apply zA | apply zN | apply zD | refine below_set ?_ GE342.out | refine below_set ?_ GE350.out) | exact HB.out)))); have n5_ := zK (blk_below (g := gb342) (o := .cells #[.int .i64 t338, .slice Ao22 t339.length co22] 26 (0, 0)) (by (with_reducible repeat (first | refine zM ?_ _ | refine zP ?_ | refine zQ ?_ _)); exact BK342.out) hb); have n6_ := zK (blk_below (g := gb350) (o := .cells #[.int .i64 t346, .slice Ao29 t347.length co29] 26 (0, 0)) (by (with_reducible repeat (first | refine zM ?_ _ | refine zP ?_ | refine zQ ?_ _)); exact BK350.out) hb); have n7_ := zK (below_step (by repeat (first | (with_reducible first | exact HB.out | apply zA | apply zN | apply zD | refine below_set ?_ GE342.out | refine below_set ?_ GE350.out) | exact HB.out)) hb); clear HO337; clear HO341; clear HO345; clear HO349; clear BK342; clear BK350; clear HB; have HO337 := n0_; have HO341 := n1_; have HO345 := n2_; have HO349 := n3_; have HO354 := n4_; have BK342 := n5_; have BK350 := n6_; have HB := n7_; clear n0_ n1_ n2_ n3_ n4_ n5_ n6_ n7_; (try clear hb); (try clear hb2); (try clear hk); (try clear hi); (try clear ho0); obtain ⟨Ao33, co33, eo33⟩ := Kd.R_slice HO354.out; subst eo33) | ((with_reducible refine gate_callee (f := 14) rfl ?_); refine goesL_ (some 30) rfl rfl Tryd.func14 (by kernel_rfl) rfl #[.slice Ao24 t343.length co24, .slice Ao33 t352.length co33] rfl (by (try simp only [List.map_toArray, List.map_cons, List.map_nil]); first | done | rfl | (simp only [List.length_drop, List.length_take]; rfl)) ?_; (with_reducible refine (laws_eqEntryS.calls k _ _ t343 _ _ t352 true _ ?side1 ?side2 ?side3 ?side4 A12.out).mono ?_); (case side1 => repeat (first | exact (Kd.R_reads' HO345.out).2.2 | (with_reducible refine Kd.C_alloc ?_ _) | (with_reducible refine Kd.C_drewN ?_ _) | (with_reducible refine Kd.C_drew ?_))); (case side2 => exact (Kd.R_reads' HO345.out).2.1); (case side3 => repeat (first | exact (Kd.R_reads' HO354.out).2.2 | (with_reducible refine Kd.C_alloc ?_ _) | (with_reducible refine Kd.C_drewN ?_ _) | (with_reducible refine Kd.C_drew ?_))); (case side4 => exact (Kd.R_reads' HO354.out).2.1); rintro e w34 ⟨rfl, hb⟩; refine ⟨_, rfl, ?_⟩; have n0_ := zK (Kd.R_below (by (with_reducible repeat (first | apply zR | apply zV | apply zW)); exact HO337.out) hb); have n1_ := zK (Kd.R_below (by (with_reducible repeat (first | apply zR | apply zV | apply zW)); exact HO341.out) hb); have n2_ := zK (Kd.R_below (by (with_reducible repeat (first | apply zR | apply zV | apply zW)); exact HO345.out) hb); have n3_ := zK (Kd.R_below (by (with_reducible repeat (first | apply zR | apply zV | apply zW)); exact HO349.out) hb); have n4_ := zK (Kd.R_below (by (with_reducible repeat (first | apply zR | apply zV | apply zW)); exact HO354.out) hb); have n5_ := zK (blk_below (g := gb342) (o := .cells #[.int .i64 t338, .slice Ao22 t339.length co22] 26 (0, 0)) (by (with_reducible repeat (first | refine zM ?_ _ | refine zP ?_ | refine zQ ?_ _)); exact BK342.out) hb); have n6_ := zK (blk_below (g := gb350) (o := .cells #[.int .i64 t346, .slice Ao29 t347.length co29] 26 (0, 0)) (by (with_reducible repeat (first | refine zM ?_ _ | refine zP ?_ | refine zQ ?_ _)); exact BK350.out) hb); have n7_ := zK (below_step (by repeat (first | (with_reducible first | exact HB.out | apply zA | apply zN | apply zD | refine below_set ?_ GE342.out | refine below_set ?_ GE350.out) | exact HB.out)) hb); clear HO337; clear HO341; clear HO345; clear HO349; clear HO354; clear BK342; clear BK350; clear HB; have HO337 := n0_; have HO341 := n1_; have HO345 := n2_; have HO349 := n3_; have HO354 := n4_; have BK342 := n5_; have BK350 := n6_; have HB := n7_; clear n0_ n1_ n2_ n3_ n4_ n5_ n6_ n7_; (try clear hb); (try clear hb2); (try clear hk); (try clear hi)) | ((with_reducible refine gate_callee (f := 15) rfl ?_); refine goesL_ (some 34) rfl rfl Tryd.func15 (by kernel_rfl) rfl #[.slice Ao24 t343.length co24, .int .i64 1] rfl (by (try simp only [List.map_toArray, List.map_cons, List.map_nil]); first | done | rfl | (simp only [List.length_drop, List.length_take]; rfl)) ?_; (with_reducible refine (laws_markEntryS.calls k (fun k_ => some k_ = (.slice Ao24 t343.length co24 : Value).ownBlock) (.slice Ao24 t343.length co24) t343 1 t356 t357 w _ ?side1 ?side2 A14.out).mono ?_); (case side1 => repeat (first | (with_reducible first | exact HB.out | apply zA | apply zN | apply zD | refine below_set ?_ GE342.out | refine below_set ?_ GE350.out) | exact HB.out)); (case side2 => exact Kd.R_tight rfl HO345.out); rintro e w35 ⟨rfl, hy0, hb, hkp⟩; refine ⟨_, rfl, ?_⟩; have n0_ := zK (Kd.R_mono (ok' := fun k_ => some k_ ≠ (.slice Ao24 t343.length co24 : Value).ownBlock ∧ some k_ ≠ (.slice Ao33 t352.length co33 : Value).ownBlock) (Kd.R_keptB (HO337.out) hkp (fun k_ hk_ hs_ => (hk_.1.2) hs_)) (fun k_ hk_ => ⟨hk_.1.1.2, hk_.1.2⟩)); have n1_ := zK (Kd.R_mono (ok' := fun k_ => some k_ ≠ (.slice Ao29 t347.length co29 : Value).ownBlock) (Kd.R_keptB ((Kd.R_apart' HO341.out (Kd.R_typed HO345.out) (by decide))) hkp (fun k_ hk_ hs_ => (hk_.2) hs_)) (fun k_ hk_ => hk_.1.1.2)); have n2_ := zK (blk_kept (by (with_reducible repeat (first | refine zM ?_ _ | refine zP ?_ | refine zQ ?_ _)); exact BK342.out) hkp (fun hs_ => (fun e_ => (Kd.R_ne HO345.out BK342.out (by decide)) e_) hs_)); have n3_ := zK (Kd.R_reok rfl hy0 (fun k_ e_ => HO345.out.1 k_ e_)); have n4_ := zK (Kd.R_mono (ok' := fun k_ => some k_ ≠ (.slice Ao22 t339.length co22 : Value).ownBlock) (Kd.R_keptB ((Kd.R_apart' HO349.out (Kd.R_typed HO345.out) (by decide))) hkp (fun k_ hk_ hs_ => (hk_.2) hs_)) (fun k_ hk_ => hk_.1.1.2)); have n5_ := zK (blk_kept (by (with_reducible repeat (first | refine zM ?_ _ | refine zP ?_ | refine zQ ?_ _)); exact BK350.out) hkp (fun hs_ => (fun e_ => (Kd.R_ne HO345.out BK350.out (by decide)) e_) hs_)); have n6_ := zK (Kd.R_mono (ok' := fun k_ => some k_ ≠ (.slice Ao18 t335.length co18 : Value).ownBlock ∧ some k_ ≠ (.slice Ao24 t343.length co24 : Value).ownBlock) (Kd.R_keptB (HO354.out) hkp (fun k_ hk_ hs_ => (hk_.2) hs_)) (fun k_ hk_ => ⟨hk_.1.1.2, hk_.1.2⟩)); have n7_ := zK (hb); clear HO337; clear HO341; clear BK342; clear HO345; clear HO349; clear BK350; clear HO354; clear HB; have HO337 := n0_; have HO341 := n1_; have BK342 := n2_; have HO345 := n3_; have HO349 := n4_; have BK350 := n5_; have HO354 := n6_; have HB := n7_; clear n0_ n1_ n2_ n3_ n4_ n5_ n6_ n7_; (try clear hb); (try clear hkp); (try clear hy0)))
    (try simp only [Act.put, zS, zT, zU])
    go_cut [42] (fun v42 wc => ∃ (kq : Nat) (x42_14 : Bool), v42 = .bool x42_14 ∧ Aside0 (laws_FnExactIndexFiles.j0 kq l0 x42_14 t338 t339 t346 t347 = some r) ∧ Aside0 (kq ≤ k) ∧ Aside0 (Kd.R k106 106 wc w.heap.size (fun k_ => some k_ ≠ ((.slice Ao29 t347.length co29) : Value).ownBlock) (.slice Ao22 t339.length co22) t339) ∧ Aside0 (Kd.R k106 106 wc w.heap.size (fun k_ => some k_ ≠ ((.slice Ao22 t339.length co22) : Value).ownBlock) (.slice Ao29 t347.length co29) t347) ∧ Aside0 (wc.heap[gb342]? = some (.cells #[.int .i64 t338, (.slice Ao22 t339.length co22)] 26 (0, 0))) ∧ Aside0 (wc.heap[gb350]? = some (.cells #[.int .i64 t346, (.slice Ao29 t347.length co29)] 26 (0, 0))) ∧ Aside0 (Below w.heap.size w wc))
    case first =>
     have H := HC15.out
     clear HC15
     by_cases c36 : t356 < 0
     ·
      rw [if_pos c36] at H
      have c36b0 : decide (t356 < 0) = true := decide_eq_true c36
      clear c36
      (first | rw [c36b0] | (simp only [i64_w, i32_w]; rw [c36b0]) | skip)
      have H' := zK H
      clear H
      go_wp2
      go_meet
      case rel => exact ⟨_, (true), (by first | rfl | (simp; done) | (simp [*]; done)), H', ⟨by first | omega | exact Nat.le_refl _⟩, ⟨by (with_reducible repeat (first | apply zR | apply zV | apply zW)); exact HO341.out⟩, ⟨by (with_reducible repeat (first | apply zR | apply zV | apply zW)); exact HO349.out⟩, ⟨by (with_reducible repeat (first | refine zM ?_ _ | refine zP ?_ | refine zQ ?_ _)); exact BK342.out⟩, ⟨by (with_reducible repeat (first | refine zM ?_ _ | refine zP ?_ | refine zQ ?_ _)); exact BK350.out⟩, ⟨by repeat (first | (with_reducible first | exact HB.out | apply zA | apply zN | apply zD | refine below_set ?_ GE342.out | refine below_set ?_ GE350.out) | exact HB.out)⟩⟩
     ·
      rw [if_neg c36] at H
      have c36b0 : decide (t356 < 0) = false := decide_eq_false c36
      clear c36
      (first | rw [c36b0] | (simp only [i64_w, i32_w]; rw [c36b0]) | skip)
      replace H := Option.bind_eq_some_iff.mp H
      obtain ⟨t358, A370, H⟩ := H
      replace H : (laws_FnExactIndexFiles.j0 k l0 (!t358) t338 t339 t346 t347) = some r := H
      have A37 := zK A370
      clear A370
      have H' := zK H
      clear H
      have hnb38 := NB350_342.out
      have hnc38 := NB342_350.out
      have hcz39_0 : w35.cell? ⟨gb350, 0, none⟩ = some (.int .i64 t346) := (blk_cell BK350.out 0).trans rfl
      have hcz39_1 : w35.cell? ⟨gb350, 1, none⟩ = some (.slice Ao29 t347.length co29) := (blk_cell BK350.out 1).trans rfl
      have hfz39_0 := blk_frozen BK350.out 0
      have hfz39_1 := blk_frozen BK350.out 1
      have hcz40_0 : w35.cell? ⟨gb342, 0, none⟩ = some (.int .i64 t338) := (blk_cell BK342.out 0).trans rfl
      have hcz40_1 : w35.cell? ⟨gb342, 1, none⟩ = some (.slice Ao22 t339.length co22) := (blk_cell BK342.out 1).trans rfl
      have hfz40_0 := blk_frozen BK342.out 0
      have hfz40_1 := blk_frozen BK342.out 1
      go_wp2_with (first | (go_at_call 13; (with_reducible refine (laws_eqFilesResult.calls k t346 _ _ t347 t338 _ _ t339 t358 _ ?side1 ?side2 ?side3 ?side4 A37.out).mono ?_); (case side1 => repeat (first | exact (Kd.R_reads' HO349.out).2.2 | (with_reducible refine Kd.C_alloc ?_ _) | (with_reducible refine Kd.C_drewN ?_ _) | (with_reducible refine Kd.C_drew ?_))); (case side2 => exact (Kd.R_reads' HO349.out).2.1); (case side3 => repeat (first | exact (Kd.R_reads' HO341.out).2.2 | (with_reducible refine Kd.C_alloc ?_ _) | (with_reducible refine Kd.C_drewN ?_ _) | (with_reducible refine Kd.C_drew ?_))); (case side4 => exact (Kd.R_reads' HO341.out).2.1); rintro e w41 ⟨rfl, hb⟩; have n0_ := zK (Kd.R_below (by (with_reducible repeat (first | apply zR | apply zV | apply zW)); exact HO337.out) hb); have n1_ := zK (Kd.R_below (by (with_reducible repeat (first | apply zR | apply zV | apply zW)); exact HO341.out) hb); have n2_ := zK (Kd.R_below (by (with_reducible repeat (first | apply zR | apply zV | apply zW)); exact HO345.out) hb); have n3_ := zK (Kd.R_below (by (with_reducible repeat (first | apply zR | apply zV | apply zW)); exact HO349.out) hb); have n4_ := zK (Kd.R_below (by (with_reducible repeat (first | apply zR | apply zV | apply zW)); exact HO354.out) hb); have n5_ := zK (blk_below (g := gb342) (o := .cells #[.int .i64 t338, .slice Ao22 t339.length co22] 26 (0, 0)) (by (with_reducible repeat (first | refine zM ?_ _ | refine zP ?_ | refine zQ ?_ _)); exact BK342.out) hb); have n6_ := zK (blk_below (g := gb350) (o := .cells #[.int .i64 t346, .slice Ao29 t347.length co29] 26 (0, 0)) (by (with_reducible repeat (first | refine zM ?_ _ | refine zP ?_ | refine zQ ?_ _)); exact BK350.out) hb); have n7_ := zK (below_step (by repeat (first | (with_reducible first | exact HB.out | apply zA | apply zN | apply zD | refine below_set ?_ GE342.out | refine below_set ?_ GE350.out) | exact HB.out)) hb); clear HO337; clear HO341; clear HO345; clear HO349; clear HO354; clear BK342; clear BK350; clear HB; have HO337 := n0_; have HO341 := n1_; have HO345 := n2_; have HO349 := n3_; have HO354 := n4_; have BK342 := n5_; have BK350 := n6_; have HB := n7_; clear n0_ n1_ n2_ n3_ n4_ n5_ n6_ n7_; (try clear hb); (try clear hb2); (try clear hk); (try clear hi)))
      go_meet
      case rel => exact ⟨_, (!t358), (by first | rfl | (simp; done) | (simp [*]; done)), H', ⟨by first | omega | exact Nat.le_refl _⟩, ⟨by (with_reducible repeat (first | apply zR | apply zV | apply zW)); exact HO341.out⟩, ⟨by (with_reducible repeat (first | apply zR | apply zV | apply zW)); exact HO349.out⟩, ⟨by (with_reducible repeat (first | refine zM ?_ _ | refine zP ?_ | refine zQ ?_ _)); exact BK342.out⟩, ⟨by (with_reducible repeat (first | refine zM ?_ _ | refine zP ?_ | refine zQ ?_ _)); exact BK350.out⟩, ⟨by repeat (first | (with_reducible first | exact HB.out | apply zA | apply zN | apply zD | refine below_set ?_ GE342.out | refine below_set ?_ GE350.out) | exact HB.out)⟩⟩
    case rest =>
     clear HC15
     try clear c1
     try clear c2
     try clear p2
     try clear c3
     try clear c3b0
     try clear c9
     try clear c10
     try clear c11
     try clear c12
     try clear c13
     try clear c14
     try clear c15
     try clear c27
     try clear c36
     try clear c36b0
     try clear c38
     try clear hcz21_0
     try clear hcz21_1
     try clear hcz28_0
     try clear hcz28_1
     try clear hcz30_0
     try clear hcz30_1
     try clear hcz39_0
     try clear hcz39_1
     try clear hcz40_0
     try clear hcz40_1
     try clear hfz21_0
     try clear hfz21_1
     try clear hfz28_0
     try clear hfz28_1
     try clear hfz30_0
     try clear hfz30_1
     try clear hfz39_0
     try clear hfz39_1
     try clear hfz40_0
     try clear hfz40_1
     obtain ⟨kq, x42_14, rfl, HA, HJ14, HO_343001, HO_351001, BK342, BK350, HB⟩ := hcut
     cases kq with
     | zero => exact absurd HA.out (by simp [laws_FnExactIndexFiles.j0])
     | succ kj14 =>
      have H := HA.out
      clear HA
      simp only [laws_FnExactIndexFiles.j0] at H
      by_cases c42 : x42_14 = true
      ·
       subst c42
       have H1 : (some false) = some r := by rw [if_pos rfl] at H; exact H
       clear H
       have H := H1
       clear H1
       exact absurd ((Option.some.inj H).trans hT_) (by decide)
      ·
       replace c42 := Bool.eq_false_iff.mpr c42
       subst c42
       have H1 : ((laws_markFilesResult.f kj14 t346 t347 1).bind fun bt359 => ((laws_heldFilesResult.f kj14 t346 bt359.2 1).bind fun t361 => (if t361 < 0 then (some false) else (if t361 = bt359.1 then ((laws_toEntryS.f kj14 l0).bind fun t362 => ((impl_IndexFiles.f kj14 t362).bind fun bt365 => ((laws_eqFilesResult.f kj14 bt365.1 bt365.2 t338 t339).bind fun t370 => (if t370 = true then ((laws_heldFilesResult.f kj14 t346 bt359.2 1).bind fun t371 => (if t371 < 0 then (some false) else (if t371 = bt359.1 then (some true) else (some false)))) else (some false))))) else (some false))))) = some r := by rw [if_neg (show ¬ (false = true) by decide)] at H; exact H
       clear H
       have H := H1
       clear H1
       replace H := Option.bind_eq_some_iff.mp H
       obtain ⟨⟨t359, t360⟩, A430, H⟩ := H
       replace H : ((laws_heldFilesResult.f kj14 t346 t360 1).bind fun t361 => (if t361 < 0 then (some false) else (if t361 = t359 then ((laws_toEntryS.f kj14 l0).bind fun t362 => ((impl_IndexFiles.f kj14 t362).bind fun bt365 => ((laws_eqFilesResult.f kj14 bt365.1 bt365.2 t338 t339).bind fun t370 => (if t370 = true then ((laws_heldFilesResult.f kj14 t346 t360 1).bind fun t371 => (if t371 < 0 then (some false) else (if t371 = t359 then (some true) else (some false)))) else (some false))))) else (some false)))) = some r := H
       have A43 := zK A430
       clear A430
       replace H := Option.bind_eq_some_iff.mp H
       obtain ⟨t361, A440, H⟩ := H
       replace H : (if t361 < 0 then (some false) else (if t361 = t359 then ((laws_toEntryS.f kj14 l0).bind fun t362 => ((impl_IndexFiles.f kj14 t362).bind fun bt365 => ((laws_eqFilesResult.f kj14 bt365.1 bt365.2 t338 t339).bind fun t370 => (if t370 = true then ((laws_heldFilesResult.f kj14 t346 t360 1).bind fun t371 => (if t371 < 0 then (some false) else (if t371 = t359 then (some true) else (some false)))) else (some false))))) else (some false))) = some r := H
       have A44 := zK A440
       clear A440
       by_cases c45 : t361 < 0
       ·
        rw [if_pos c45] at H
        have c45b0 : decide (t361 < 0) = true := decide_eq_true c45
        clear c45
        exact absurd ((Option.some.inj H).trans hT_) (by decide)
       ·
        rw [if_neg c45] at H
        have c45b0 : decide (t361 < 0) = false := decide_eq_false c45
        clear c45
        by_cases c51 : t361 = t359
        ·
         rw [if_pos c51] at H
         have c51b0 : (t361 == t359) = true := beq_iff_eq.mpr c51
         have c51b1 : (t361 != t359) = false := bne_eq_false_iff_eq.mpr c51
         clear c51
         replace H := Option.bind_eq_some_iff.mp H
         obtain ⟨t362, A520, H⟩ := H
         replace H : ((impl_IndexFiles.f kj14 t362).bind fun bt365 => ((laws_eqFilesResult.f kj14 bt365.1 bt365.2 t338 t339).bind fun t370 => (if t370 = true then ((laws_heldFilesResult.f kj14 t346 t360 1).bind fun t371 => (if t371 < 0 then (some false) else (if t371 = t359 then (some true) else (some false)))) else (some false)))) = some r := H
         have A52 := zK A520
         clear A520
         replace H := Option.bind_eq_some_iff.mp H
         obtain ⟨⟨t365, t366⟩, A530, H⟩ := H
         replace H : ((laws_eqFilesResult.f kj14 t365 t366 t338 t339).bind fun t370 => (if t370 = true then ((laws_heldFilesResult.f kj14 t346 t360 1).bind fun t371 => (if t371 < 0 then (some false) else (if t371 = t359 then (some true) else (some false)))) else (some false))) = some r := H
         have A53 := zK A530
         clear A530
         replace H := Option.bind_eq_some_iff.mp H
         obtain ⟨t370, A540, H⟩ := H
         replace H : (if t370 = true then ((laws_heldFilesResult.f kj14 t346 t360 1).bind fun t371 => (if t371 < 0 then (some false) else (if t371 = t359 then (some true) else (some false)))) else (some false)) = some r := H
         have A54 := zK A540
         clear A540
         by_cases c55 : t370 = true
         ·
          subst c55
          have H1 : ((laws_heldFilesResult.f kj14 t346 t360 1).bind fun t371 => (if t371 < 0 then (some false) else (if t371 = t359 then (some true) else (some false)))) = some r := by rw [if_pos rfl] at H; exact H
          clear H
          have H := H1
          clear H1
          replace H := Option.bind_eq_some_iff.mp H
          obtain ⟨t371, A560, H⟩ := H
          replace H : (if t371 < 0 then (some false) else (if t371 = t359 then (some true) else (some false))) = some r := H
          have A56 := zK A560
          clear A560
          by_cases c57 : t371 < 0
          ·
           rw [if_pos c57] at H
           have c57b0 : decide (t371 < 0) = true := decide_eq_true c57
           clear c57
           exact absurd ((Option.some.inj H).trans hT_) (by decide)
          ·
           rw [if_neg c57] at H
           have c57b0 : decide (t371 < 0) = false := decide_eq_false c57
           clear c57
           by_cases c75 : t371 = t359
           ·
            rw [if_pos c75] at H
            have c75b0 : (t371 == t359) = true := beq_iff_eq.mpr c75
            have c75b1 : (t371 != t359) = false := bne_eq_false_iff_eq.mpr c75
            clear c75
            obtain rfl := Option.some.inj H
            have hnb76 := NB350_342.out
            have hnc76 := NB342_350.out
            have hcz77_0 : wc.cell? ⟨gb350, 0, none⟩ = some (.int .i64 t346) := (blk_cell BK350.out 0).trans rfl
            have hcz77_1 : wc.cell? ⟨gb350, 1, none⟩ = some (.slice Ao29 t347.length co29) := (blk_cell BK350.out 1).trans rfl
            have hfz77_0 := blk_frozen BK350.out 0
            have hfz77_1 := blk_frozen BK350.out 1
            go_wp2_with (first | ((with_reducible refine gate_callee (f := 16) rfl ?_); refine goesL_ (some 45) rfl rfl Tryd.func16 (by kernel_rfl) rfl #[.agg #[.int .i64 t346, .slice Ao29 t347.length co29], .int .i64 1] rfl (by (try simp only [List.map_toArray, List.map_cons, List.map_nil]); first | done | rfl | (simp only [List.length_drop, List.length_take]; rfl)) ?_; (with_reducible refine (laws_markFilesResult.calls kj14 t346 (fun k_ => some k_ = (.slice Ao29 t347.length co29 : Value).ownBlock) (.slice Ao29 t347.length co29) t347 1 t359 t360 w _ ?side1 ?side2 A43.out).mono ?_); (case side1 => repeat (first | (with_reducible first | exact HB.out | apply zA | apply zN | apply zD | refine below_set ?_ GE342.out | refine below_set ?_ GE350.out) | exact HB.out)); (case side2 => exact Kd.R_tight rfl HO_351001.out); rintro e w78 ⟨rfl, hy0, hb, hkp⟩; refine ⟨_, rfl, ?_⟩; have n0_ := zK (Kd.R_mono (ok' := fun k_ => some k_ ≠ (.slice Ao29 t347.length co29 : Value).ownBlock) (Kd.R_keptB (HO_343001.out) hkp (fun k_ hk_ hs_ => (hk_) hs_)) (fun k_ hk_ => hk_.1)); have n1_ := zK (Kd.R_reok rfl hy0 (fun k_ e_ => HO_351001.out.1 k_ e_)); have n2_ := zK (blk_kept (by (with_reducible repeat (first | refine zM ?_ _ | refine zP ?_ | refine zQ ?_ _)); exact BK342.out) hkp (fun hs_ => (fun e_ => (Kd.R_ne HO_351001.out BK342.out (by decide)) e_) hs_)); have n3_ := zK (blk_kept (by (with_reducible repeat (first | refine zM ?_ _ | refine zP ?_ | refine zQ ?_ _)); exact BK350.out) hkp (fun hs_ => (fun e_ => (Kd.R_ne HO_351001.out BK350.out (by decide)) e_) hs_)); have n4_ := zK (hb); clear HO_343001; clear HO_351001; clear BK342; clear BK350; clear HB; have HO_343001 := n0_; have HO_351001 := n1_; have BK342 := n2_; have BK350 := n3_; have HB := n4_; clear n0_ n1_ n2_ n3_ n4_; (try clear hb); (try clear hkp); (try clear hy0); have hcz79_0 : w78.cell? ⟨gb350, 0, none⟩ = some (.int .i64 t346) := (blk_cell BK350.out 0).trans rfl; have hcz79_1 : w78.cell? ⟨gb350, 1, none⟩ = some (.slice Ao29 t347.length co29) := (blk_cell BK350.out 1).trans rfl; have hfz79_0 := blk_frozen BK350.out 0; have hfz79_1 := blk_frozen BK350.out 1) | ((with_reducible refine gate_callee (f := 17) rfl ?_); refine goesL_ (some 48) rfl rfl Tryd.func17 (by kernel_rfl) rfl #[.agg #[.int .i64 t346, .slice Ao29 t360.length co29], .int .i64 1] rfl (by (try simp only [List.map_toArray, List.map_cons, List.map_nil]); first | done | (rw [show t360.length = t347.length from (Kd.R_reads' HO_351001.out).1.symm] <;> rfl) | rfl | (simp only [List.length_drop, List.length_take]; rfl)) ?_; (with_reducible refine (laws_heldFilesResult.calls kj14 t346 _ _ t360 1 t361 _ ?side1 ?side2 A44.out).mono ?_); (case side1 => repeat (first | exact (Kd.R_reads' HO_351001.out).2.2 | (with_reducible refine Kd.C_alloc ?_ _) | (with_reducible refine Kd.C_drewN ?_ _) | (with_reducible refine Kd.C_drew ?_))); (case side2 => rw [show t360.length = t347.length from (Kd.R_reads' HO_351001.out).1.symm]; exact (Kd.R_reads' HO_351001.out).2.1); rintro e w80 ⟨rfl, hb⟩; refine ⟨_, rfl, ?_⟩; have n0_ := zK (Kd.R_below (by (with_reducible repeat (first | apply zR | apply zV | apply zW)); exact HO_343001.out) hb); have n1_ := zK (Kd.R_below (by (with_reducible repeat (first | apply zR | apply zV | apply zW)); exact HO_351001.out) hb); have n2_ := zK (blk_below (g := gb342) (o := .cells #[.int .i64 t338, .slice Ao22 t339.length co22] 26 (0, 0)) (by (with_reducible repeat (first | refine zM ?_ _ | refine zP ?_ | refine zQ ?_ _)); exact BK342.out) hb); have n3_ := zK (blk_below (g := gb350) (o := .cells #[.int .i64 t346, .slice Ao29 t347.length co29] 26 (0, 0)) (by (with_reducible repeat (first | refine zM ?_ _ | refine zP ?_ | refine zQ ?_ _)); exact BK350.out) hb); have n4_ := zK (below_step (by repeat (first | (with_reducible first | exact HB.out | apply zA | apply zN | apply zD | refine below_set ?_ GE342.out | refine below_set ?_ GE350.out) | exact HB.out)) hb); clear HO_343001; clear HO_351001; clear BK342; clear BK350; clear HB; have HO_343001 := n0_; have HO_351001 := n1_; have BK342 := n2_; have BK350 := n3_; have HB := n4_; clear n0_ n1_ n2_ n3_ n4_; (try clear hb); (try clear hb2); (try clear hk); (try clear hi)) | ((with_reducible refine gate_callee (f := 11) rfl ?_); refine goesL_ (some 55) rfl rfl Tryd.func11 (by kernel_rfl) rfl #[.slice A0 l0.length c0] rfl (by (try simp only [List.map_toArray, List.map_cons, List.map_nil]); first | done | rfl | (simp only [List.length_drop, List.length_take]; rfl)) ?_; (with_reducible refine (laws_toEntryS.calls kj14 _ _ l0 t362 _ ?side1 ?side2 A52.out).mono ?_); (case side1 => repeat (first | exact (Kd.C_below HR0.out HB.out) | (with_reducible refine Kd.C_alloc ?_ _) | (with_reducible refine Kd.C_drewN ?_ _) | (with_reducible refine Kd.C_drew ?_))); (case side2 => exact HC0.out); rintro e w81 ⟨v363, rfl, ho0, hb⟩; refine ⟨_, rfl, ?_⟩; have n0_ := zK (Kd.R_below (by (with_reducible repeat (first | apply zR | apply zV | apply zW)); exact HO_343001.out) hb); have n1_ := zK (Kd.R_below (by (with_reducible repeat (first | apply zR | apply zV | apply zW)); exact HO_351001.out) hb); have n2_ := zK (Kd.R_lower ho0 (below_size (by repeat (first | (with_reducible first | exact HB.out | apply zA | apply zN | apply zD | refine below_set ?_ GE342.out | refine below_set ?_ GE350.out) | exact HB.out)))); have n3_ := zK (blk_below (g := gb342) (o := .cells #[.int .i64 t338, .slice Ao22 t339.length co22] 26 (0, 0)) (by (with_reducible repeat (first | refine zM ?_ _ | refine zP ?_ | refine zQ ?_ _)); exact BK342.out) hb); have n4_ := zK (blk_below (g := gb350) (o := .cells #[.int .i64 t346, .slice Ao29 t347.length co29] 26 (0, 0)) (by (with_reducible repeat (first | refine zM ?_ _ | refine zP ?_ | refine zQ ?_ _)); exact BK350.out) hb); have n5_ := zK (below_step (by repeat (first | (with_reducible first | exact HB.out | apply zA | apply zN | apply zD | refine below_set ?_ GE342.out | refine below_set ?_ GE350.out) | exact HB.out)) hb); clear HO_343001; clear HO_351001; clear BK342; clear BK350; clear HB; have HO_343001 := n0_; have HO_351001 := n1_; have HO364 := n2_; have BK342 := n3_; have BK350 := n4_; have HB := n5_; clear n0_ n1_ n2_ n3_ n4_ n5_; (try clear hb); (try clear hb2); (try clear hk); (try clear hi); (try clear ho0); obtain ⟨Ao82, co82, eo82⟩ := Kd.R_slice HO364.out; subst eo82) | ((with_reducible refine gate_callee (f := 12) rfl ?_); refine goesL_ (some 56) rfl rfl Tryd.func12 (by kernel_rfl) rfl #[.slice Ao82 t362.length co82] rfl (by (try simp only [List.map_toArray, List.map_cons, List.map_nil]); first | done | rfl | (simp only [List.length_drop, List.length_take]; rfl)) ?_; (with_reducible refine (impl_IndexFiles.calls kj14 _ _ t362 t365 t366 _ ?side1 ?side2 A53.out).mono ?_); (case side1 => repeat (first | exact (Kd.R_reads' HO364.out).2.2 | (with_reducible refine Kd.C_alloc ?_ _) | (with_reducible refine Kd.C_drewN ?_ _) | (with_reducible refine Kd.C_drew ?_))); (case side2 => exact (Kd.R_reads' HO364.out).2.1); rintro e w83 ⟨v367, rfl, ho0, hb⟩; refine ⟨_, rfl, ?_⟩; have n0_ := zK (Kd.R_elder' (by (with_reducible repeat (first | apply zR | apply zV | apply zW)); exact HO_343001.out) (Kd.R_base ho0) hb); have n1_ := zK (Kd.R_elder' (by (with_reducible repeat (first | apply zR | apply zV | apply zW)); exact HO_351001.out) (Kd.R_base ho0) hb); have n2_ := zK (Kd.R_below (by (with_reducible repeat (first | apply zR | apply zV | apply zW)); exact HO364.out) hb); have n3_ := zK (Kd.R_lower (Kd.R_new' (Kd.R_new' ho0 (Kd.R_lt (by (with_reducible repeat (first | apply zR | apply zV | apply zW)); exact HO_343001.out))) (Kd.R_lt (by (with_reducible repeat (first | apply zR | apply zV | apply zW)); exact HO_351001.out))) (below_size (by repeat (first | (with_reducible first | exact HB.out | apply zA | apply zN | apply zD | refine below_set ?_ GE342.out | refine below_set ?_ GE350.out) | exact HB.out)))); have n4_ := zK (blk_below (g := gb342) (o := .cells #[.int .i64 t338, .slice Ao22 t339.length co22] 26 (0, 0)) (by (with_reducible repeat (first | refine zM ?_ _ | refine zP ?_ | refine zQ ?_ _)); exact BK342.out) hb); have n5_ := zK (blk_below (g := gb350) (o := .cells #[.int .i64 t346, .slice Ao29 t347.length co29] 26 (0, 0)) (by (with_reducible repeat (first | refine zM ?_ _ | refine zP ?_ | refine zQ ?_ _)); exact BK350.out) hb); have n6_ := zK (below_step (by repeat (first | (with_reducible first | exact HB.out | apply zA | apply zN | apply zD | refine below_set ?_ GE342.out | refine below_set ?_ GE350.out) | exact HB.out)) hb); clear HO_343001; clear HO_351001; clear HO364; clear BK342; clear BK350; clear HB; have HO_343001 := n0_; have HO_351001 := n1_; have HO364 := n2_; have HO368 := n3_; have BK342 := n4_; have BK350 := n5_; have HB := n6_; clear n0_ n1_ n2_ n3_ n4_ n5_ n6_; (try clear hb); (try clear hb2); (try clear hk); (try clear hi); (try clear ho0)) | ((with_reducible refine gate_dst (N := 10) rfl ?_); refine box_event ?hg (N := 10) ?hd (cs := #[.int .i64 0, .slice none 0 0]) (t := 26) ?hr ?_; (case hd => rfl); (case hg => rfl); (case hr => first | (go_simp; done) | (go_simp; rfl)); intro gb369 hg w84 hbox hb; have n0_ := zK (Kd.R_below (by (with_reducible repeat (first | apply zR | apply zV | apply zW)); exact HO_343001.out) hb); have n1_ := zK (Kd.R_below (by (with_reducible repeat (first | apply zR | apply zV | apply zW)); exact HO_351001.out) hb); have n2_ := zK (Kd.R_below (by (with_reducible repeat (first | apply zR | apply zV | apply zW)); exact HO364.out) hb); have n3_ := zK (Kd.R_below (by (with_reducible repeat (first | apply zR | apply zV | apply zW)); exact HO368.out) hb); have n4_ := zK (blk_below (g := gb342) (o := .cells #[.int .i64 t338, .slice Ao22 t339.length co22] 26 (0, 0)) (by (with_reducible repeat (first | refine zM ?_ _ | refine zP ?_ | refine zQ ?_ _)); exact BK342.out) hb); have n5_ := zK (blk_below (g := gb350) (o := .cells #[.int .i64 t346, .slice Ao29 t347.length co29] 26 (0, 0)) (by (with_reducible repeat (first | refine zM ?_ _ | refine zP ?_ | refine zQ ?_ _)); exact BK350.out) hb); have n6_ := zK (below_step (by repeat (first | (with_reducible first | exact HB.out | apply zA | apply zN | apply zD | refine below_set ?_ GE342.out | refine below_set ?_ GE350.out) | exact HB.out)) hb); have n7_ := zK (hbox); have n8_ := zK ((by rw [hg]; exact (below_size (by repeat (first | (with_reducible first | exact HB.out | apply zA | apply zN | apply zD | refine below_set ?_ GE342.out | refine below_set ?_ GE350.out) | exact HB.out))) : w.heap.size ≤ gb369)); have n9_ := zK ((by rw [hg]; exact (below_size (by repeat (first | (with_reducible first | exact HB.out | apply zA | apply zN | apply zD | refine below_set ?_ GE342.out | refine below_set ?_ GE350.out) | exact HB.out))) : w.heap.size ≤ gb369)); have n10_ := zK ((by rw [hg]; exact Nat.ne_of_lt (blk_lt (g := gb342) (o := .cells #[.int .i64 t338, .slice Ao22 t339.length co22] 26 (0, 0)) (by (with_reducible repeat (first | refine zM ?_ _ | refine zP ?_ | refine zQ ?_ _)); exact BK342.out)) : gb342 ≠ gb369)); have n11_ := zK ((by rw [hg]; exact Nat.ne_of_gt (blk_lt (g := gb342) (o := .cells #[.int .i64 t338, .slice Ao22 t339.length co22] 26 (0, 0)) (by (with_reducible repeat (first | refine zM ?_ _ | refine zP ?_ | refine zQ ?_ _)); exact BK342.out)) : gb369 ≠ gb342)); have n12_ := zK ((by rw [hg]; exact Nat.ne_of_lt (blk_lt (g := gb350) (o := .cells #[.int .i64 t346, .slice Ao29 t347.length co29] 26 (0, 0)) (by (with_reducible repeat (first | refine zM ?_ _ | refine zP ?_ | refine zQ ?_ _)); exact BK350.out)) : gb350 ≠ gb369)); have n13_ := zK ((by rw [hg]; exact Nat.ne_of_gt (blk_lt (g := gb350) (o := .cells #[.int .i64 t346, .slice Ao29 t347.length co29] 26 (0, 0)) (by (with_reducible repeat (first | refine zM ?_ _ | refine zP ?_ | refine zQ ?_ _)); exact BK350.out)) : gb369 ≠ gb350)); clear HO_343001; clear HO_351001; clear HO364; clear HO368; clear BK342; clear BK350; clear HB; have HO_343001 := n0_; have HO_351001 := n1_; have HO364 := n2_; have HO368 := n3_; have BK342 := n4_; have BK350 := n5_; have HB := n6_; have BK369 := n7_; have GW369 := n8_; have GE369 := n9_; have NB342_369 := n10_; have NB369_342 := n11_; have NB350_369 := n12_; have NB369_350 := n13_; clear n0_ n1_ n2_ n3_ n4_ n5_ n6_ n7_ n8_ n9_ n10_ n11_ n12_ n13_; clear hb hbox hg; have hnb85 := NB369_342.out; have hnc85 := NB342_369.out; have hnb86 := NB369_350.out; have hnc86 := NB350_369.out; have hcz87_0 : w84.cell? ⟨gb369, 0, none⟩ = some (.int .i64 0) := (blk_cell BK369.out 0).trans rfl; have hcz87_1 : w84.cell? ⟨gb369, 1, none⟩ = some (.slice none 0 0) := (blk_cell BK369.out 1).trans rfl; have hfz87_0 := blk_frozen BK369.out 0; have hfz87_1 := blk_frozen BK369.out 1; obtain ⟨Ao88, co88, eo88⟩ := Kd.R_slice HO368.out; subst eo88; have hcz89_0 : w84.cell? ⟨gb342, 0, none⟩ = some (.int .i64 t338) := (blk_cell BK342.out 0).trans rfl; have hcz89_1 : w84.cell? ⟨gb342, 1, none⟩ = some (.slice Ao22 t339.length co22) := (blk_cell BK342.out 1).trans rfl; have hfz89_0 := blk_frozen BK342.out 0; have hfz89_1 := blk_frozen BK342.out 1) | ((with_reducible refine gate_callee (f := 13) rfl ?_); refine goesL_ (some 59) rfl rfl Tryd.func13 (by kernel_rfl) rfl #[.agg #[.int .i64 t365, .slice Ao88 t366.length co88], .agg #[.int .i64 t338, .slice Ao22 t339.length co22]] rfl (by (try simp only [List.map_toArray, List.map_cons, List.map_nil]); first | done | rfl | (simp only [List.length_drop, List.length_take]; rfl)) ?_; (with_reducible refine (laws_eqFilesResult.calls kj14 t365 _ _ t366 t338 _ _ t339 true _ ?side1 ?side2 ?side3 ?side4 A54.out).mono ?_); (case side1 => refine (Kd.R_reads' (e := 106) (base := w.heap.size) (ok := fun k_ => ((True ∧ some k_ ≠ (.slice Ao22 t339.length co22 : Value).ownBlock) ∧ some k_ ≠ (.slice Ao29 t347.length co29 : Value).ownBlock)) (n := t366.length) (c := co88) ?_).2.2; exact (by (with_reducible repeat (first | apply zR | apply zV | apply zW)); exact (Kd.R_mono (Kd.R_far (p := ⟨gb369, 1, none⟩) (Kd.R_far (p := ⟨gb369, 0, none⟩) (Kd.R_types HO368.out BK369.out (by decide)) (fun _ hk => hk.2) (.int .i64 t365)) (fun _ hk => hk.2) (.slice Ao88 t366.length co88)) (fun _ h_ => h_.1)))); (case side2 => exact (Kd.R_reads' HO368.out).2.1); (case side3 => refine (Kd.R_reads' (e := 106) (base := w.heap.size) (ok := fun k_ => (some k_ ≠ (.slice Ao29 t347.length co29 : Value).ownBlock ∧ some k_ ≠ (.slice Ao88 t366.length co88 : Value).ownBlock)) (n := t339.length) (c := co22) ?_).2.2; exact (by (with_reducible repeat (first | apply zR | apply zV | apply zW)); exact (Kd.R_mono (Kd.R_far (p := ⟨gb369, 1, none⟩) (Kd.R_far (p := ⟨gb369, 0, none⟩) (Kd.R_types HO_343001.out BK369.out (by decide)) (fun _ hk => hk.2) (.int .i64 t365)) (fun _ hk => hk.2) (.slice Ao88 t366.length co88)) (fun _ h_ => h_.1)))); (case side4 => exact (Kd.R_reads' HO_343001.out).2.1); rintro e w90 ⟨rfl, hb⟩; refine ⟨_, rfl, ?_⟩; have n0_ := zK (Kd.R_below (by (with_reducible repeat (first | apply zR | apply zV | apply zW)); exact (Kd.R_mono (Kd.R_far (p := ⟨gb369, 1, none⟩) (Kd.R_far (p := ⟨gb369, 0, none⟩) (Kd.R_types HO_343001.out BK369.out (by decide)) (fun _ hk => hk.2) (.int .i64 t365)) (fun _ hk => hk.2) (.slice Ao88 t366.length co88)) (fun _ h_ => h_.1))) hb); have n1_ := zK (Kd.R_below (by (with_reducible repeat (first | apply zR | apply zV | apply zW)); exact (Kd.R_mono (Kd.R_far (p := ⟨gb369, 1, none⟩) (Kd.R_far (p := ⟨gb369, 0, none⟩) (Kd.R_types HO_351001.out BK369.out (by decide)) (fun _ hk => hk.2) (.int .i64 t365)) (fun _ hk => hk.2) (.slice Ao88 t366.length co88)) (fun _ h_ => h_.1))) hb); have n2_ := zK (Kd.R_below (by (with_reducible repeat (first | apply zR | apply zV | apply zW)); exact (Kd.R_mono (Kd.R_far (p := ⟨gb369, 1, none⟩) (Kd.R_far (p := ⟨gb369, 0, none⟩) (Kd.R_types HO364.out BK369.out (by decide)) (fun _ hk => hk.2) (.int .i64 t365)) (fun _ hk => hk.2) (.slice Ao88 t366.length co88)) (fun _ h_ => h_.1))) hb); have n3_ := zK (Kd.R_below (by (with_reducible repeat (first | apply zR | apply zV | apply zW)); exact (Kd.R_mono (Kd.R_far (p := ⟨gb369, 1, none⟩) (Kd.R_far (p := ⟨gb369, 0, none⟩) (Kd.R_types HO368.out BK369.out (by decide)) (fun _ hk => hk.2) (.int .i64 t365)) (fun _ hk => hk.2) (.slice Ao88 t366.length co88)) (fun _ h_ => h_.1))) hb); have n4_ := zK (blk_below (g := gb342) (o := .cells #[.int .i64 t338, .slice Ao22 t339.length co22] 26 (0, 0)) (by (with_reducible repeat (first | refine zM ?_ _ | refine zP ?_ | refine zQ ?_ _)); refine blk_far ?_ NB342_369.out _; (with_reducible repeat (first | refine zM ?_ _ | refine zP ?_ | refine zQ ?_ _)); refine blk_far ?_ NB342_369.out _; (with_reducible repeat (first | refine zM ?_ _ | refine zP ?_ | refine zQ ?_ _)); exact BK342.out) hb); have n5_ := zK (blk_below (g := gb350) (o := .cells #[.int .i64 t346, .slice Ao29 t347.length co29] 26 (0, 0)) (by (with_reducible repeat (first | refine zM ?_ _ | refine zP ?_ | refine zQ ?_ _)); refine blk_far ?_ NB350_369.out _; (with_reducible repeat (first | refine zM ?_ _ | refine zP ?_ | refine zQ ?_ _)); refine blk_far ?_ NB350_369.out _; (with_reducible repeat (first | refine zM ?_ _ | refine zP ?_ | refine zQ ?_ _)); exact BK350.out) hb); have n6_ := zK (blk_below (g := gb369) (o := .cells #[.int .i64 t365, .slice Ao88 t366.length co88] 26 (0, 0)) (by (with_reducible repeat (first | refine zM ?_ _ | refine zP ?_ | refine zQ ?_ _)); refine blk_put (cs := #[.int .i64 t365, .slice none 0 0]) ?_ 1 _ rfl; (with_reducible repeat (first | refine zM ?_ _ | refine zP ?_ | refine zQ ?_ _)); refine blk_put (cs := #[.int .i64 0, .slice none 0 0]) ?_ 0 _ rfl; (with_reducible repeat (first | refine zM ?_ _ | refine zP ?_ | refine zQ ?_ _)); exact BK369.out) hb); have n7_ := zK (below_step (by repeat (first | (with_reducible first | exact HB.out | apply zA | apply zN | apply zD | refine below_set ?_ GE342.out | refine below_set ?_ GE350.out | refine below_set ?_ GE369.out) | exact HB.out)) hb); clear HO_343001; clear HO_351001; clear HO364; clear HO368; clear BK342; clear BK350; clear BK369; clear HB; have HO_343001 := n0_; have HO_351001 := n1_; have HO364 := n2_; have HO368 := n3_; have BK342 := n4_; have BK350 := n5_; have BK369 := n6_; have HB := n7_; clear n0_ n1_ n2_ n3_ n4_ n5_ n6_ n7_; (try clear hb); (try clear hb2); (try clear hk); (try clear hi); have hcz91_0 : w90.cell? ⟨gb350, 0, none⟩ = some (.int .i64 t346) := (blk_cell BK350.out 0).trans rfl; have hcz91_1 : w90.cell? ⟨gb350, 1, none⟩ = some (.slice Ao29 t347.length co29) := (blk_cell BK350.out 1).trans rfl; have hfz91_0 := blk_frozen BK350.out 0; have hfz91_1 := blk_frozen BK350.out 1) | ((with_reducible refine gate_callee (f := 17) rfl ?_); refine goesL_ (some 63) rfl rfl Tryd.func17 (by kernel_rfl) rfl #[.agg #[.int .i64 t346, .slice Ao29 t360.length co29], .int .i64 1] rfl (by (try simp only [List.map_toArray, List.map_cons, List.map_nil]); first | done | (rw [show t360.length = t347.length from (Kd.R_reads' HO_351001.out).1.symm] <;> rfl) | rfl | (simp only [List.length_drop, List.length_take]; rfl)) ?_; (with_reducible refine (laws_heldFilesResult.calls kj14 t346 _ _ t360 1 t371 _ ?side1 ?side2 A56.out).mono ?_); (case side1 => repeat (first | exact (Kd.R_reads' HO_351001.out).2.2 | (with_reducible refine Kd.C_alloc ?_ _) | (with_reducible refine Kd.C_drewN ?_ _) | (with_reducible refine Kd.C_drew ?_))); (case side2 => rw [show t360.length = t347.length from (Kd.R_reads' HO_351001.out).1.symm]; exact (Kd.R_reads' HO_351001.out).2.1); rintro e w92 ⟨rfl, hb⟩; refine ⟨_, rfl, ?_⟩; have n0_ := zK (Kd.R_below (by (with_reducible repeat (first | apply zR | apply zV | apply zW)); exact HO_343001.out) hb); have n1_ := zK (Kd.R_below (by (with_reducible repeat (first | apply zR | apply zV | apply zW)); exact HO_351001.out) hb); have n2_ := zK (Kd.R_below (by (with_reducible repeat (first | apply zR | apply zV | apply zW)); exact HO364.out) hb); have n3_ := zK (Kd.R_below (by (with_reducible repeat (first | apply zR | apply zV | apply zW)); exact HO368.out) hb); have n4_ := zK (blk_below (g := gb342) (o := .cells #[.int .i64 t338, .slice Ao22 t339.length co22] 26 (0, 0)) (by (with_reducible repeat (first | refine zM ?_ _ | refine zP ?_ | refine zQ ?_ _)); exact BK342.out) hb); have n5_ := zK (blk_below (g := gb350) (o := .cells #[.int .i64 t346, .slice Ao29 t347.length co29] 26 (0, 0)) (by (with_reducible repeat (first | refine zM ?_ _ | refine zP ?_ | refine zQ ?_ _)); exact BK350.out) hb); have n6_ := zK (blk_below (g := gb369) (o := .cells #[.int .i64 t365, .slice Ao88 t366.length co88] 26 (0, 0)) (by (with_reducible repeat (first | refine zM ?_ _ | refine zP ?_ | refine zQ ?_ _)); exact BK369.out) hb); have n7_ := zK (below_step (by repeat (first | (with_reducible first | exact HB.out | apply zA | apply zN | apply zD | refine below_set ?_ GE342.out | refine below_set ?_ GE350.out | refine below_set ?_ GE369.out) | exact HB.out)) hb); clear HO_343001; clear HO_351001; clear HO364; clear HO368; clear BK342; clear BK350; clear BK369; clear HB; have HO_343001 := n0_; have HO_351001 := n1_; have HO364 := n2_; have HO368 := n3_; have BK342 := n4_; have BK350 := n5_; have BK369 := n6_; have HB := n7_; clear n0_ n1_ n2_ n3_ n4_ n5_ n6_ n7_; (try clear hb); (try clear hb2); (try clear hk); (try clear hi)))
            go_ret
            exact ⟨by first | rfl | (simp [errW_none, errW_some] <;> rfl) | (simp [*, errW_none, errW_some] <;> rfl), by repeat (first | (with_reducible first | exact HB.out | apply zA | apply zN | apply zD | refine below_set ?_ GE342.out | refine below_set ?_ GE350.out | refine below_set ?_ GE369.out) | exact HB.out)⟩
           ·
            rw [if_neg c75] at H
            have c75b0 : (t371 == t359) = false := beq_eq_false_iff_ne.mpr c75
            have c75b1 : (t371 != t359) = true := bne_iff_ne.mpr c75
            exact absurd ((Option.some.inj H).trans hT_) (by decide)
         ·
          replace c55 := Bool.eq_false_iff.mpr c55
          subst c55
          have H1 : (some false) = some r := by rw [if_neg (show ¬ (false = true) by decide)] at H; exact H
          clear H
          have H := H1
          clear H1
          exact absurd ((Option.some.inj H).trans hT_) (by decide)
        ·
         rw [if_neg c51] at H
         have c51b0 : (t361 == t359) = false := beq_eq_false_iff_ne.mpr c51
         have c51b1 : (t361 != t359) = true := bne_iff_ne.mpr c51
         exact absurd ((Option.some.inj H).trans hT_) (by decide)
   ·
    replace c13 := Bool.eq_false_iff.mpr c13
    subst c13
    have H1 : (some false) = some r := by rw [if_neg (show ¬ (false = true) by decide)] at H; exact H
    clear H
    have H := H1
    clear H1
    exact absurd ((Option.some.inj H).trans hT_) (by decide)
  ·
   replace c10 := Bool.eq_false_iff.mpr c10
   subst c10
   have H1 : (some false) = some r := by rw [if_neg (show ¬ (false = true) by decide)] at H; exact H
   clear H
   have H := H1
   clear H1
   exact absurd ((Option.some.inj H).trans hT_) (by decide)

end Go.Proofs.YtjibadlbiapcmaaDoor.PX

namespace Go.Proofs.YtjibadlbiapcmaaDoorX
open Go Go.RowKit Go.Proofs.YtjibadlbiapcmaaDoorW.PrintWords Go.Proofs.YtjibadlbiapcmaaDoor.PX
set_option linter.unusedVariables false
theorem stage_mem (l : List IEntry) (st : Int) (hs : iSmall l) : ∀ (d i : Nat) (out : List IFile), i + d = l.length → fSmall out → fSmall (run (stageStep l st) (fun x => x) d i out)
  | 0, i, out, _, h => h
  | d + 1, i, out, hi, h => by
    by_cases hst : (entAt l i).f1 = st
    · rw [run_on (s' := out ++ [entryFile (entAt l i)]) (by unfold stageStep; rw [if_pos hst])]
      refine stage_mem l st hs d (i + 1) _ (by omega) ?_
      intro x hx
      rcases List.mem_append.1 hx with hx | hx
      · exact h x hx
      · rw [List.mem_singleton.1 hx]
        exact iSmall_at hs (i := i) (by omega)
    · rw [run_on (s' := out) (by unfold stageStep; rw [if_neg hst])]
      exact stage_mem l st hs d (i + 1) _ (by omega) h
theorem stageL_small (l : List IEntry) (st : Int) (hs : iSmall l) : fSmall (stageL l st) :=
  stage_mem l st hs l.length 0 [] (by omega) (fun x hx => absurd hx List.not_mem_nil)
def ifV (l : List IEntry) : Int × List IFile :=
  if indexV l = 0 then (if (X.clashS l).length > 0 then (8, []) else (if filesV (stageL l 0) = 0 then (0, stageL l 0) else (filesV (stageL l 0), []))) else (indexV l, [])
theorem ifV_len (l : List IEntry) : (ifV l).2.length ≤ l.length := by
  unfold ifV
  split
  · split
    · exact Nat.zero_le _
    · split
      · exact stageL_len l 0
      · exact Nat.zero_le _
  · exact Nat.zero_le _
theorem spec_indexFiles (l : List IEntry) (hl : l.length ≤ 1048576) (hs : iSmall l) (k : Nat) (hk : 1052800 + l.length < k) : spec_IndexFiles.f (2 * k) l = some (ifV l) := by
  unfold spec_IndexFiles.f ifV
  have hsl := stageL_len l 0
  rw [spec_index l hl hs k (by omega), Option.bind_some]
  by_cases h : indexV l = 0
  · rw [if_pos h, if_pos h, spec_clashes l hl, Option.bind_some]
    by_cases hc : (X.clashS l).length > 0
    · rw [if_pos (by omega), if_pos hc]
    · rw [if_neg (by omega), if_neg hc, spec_stage l 0 hl (2 * k) (by omega), Option.bind_some, spec_files (stageL l 0) (by omega) (stageL_small l 0 hs) k (by omega), Option.bind_some]
      by_cases hf : filesV (stageL l 0) = 0
      · rw [if_pos hf, if_pos hf]
      · rw [if_neg hf, if_neg hf]
  · rw [if_neg h, if_neg h]
theorem codeIf_busy (b : Bool) : impl_codeIf.f b 8 = some (if b = true then 8 else 0) := by
  unfold impl_codeIf.f
  cases b <;> rfl
theorem impl_indexFiles_tells (l : List IEntry) (hl : l.length ≤ 1048576) (hs : iSmall l) (k : Nat) (hk : 1052800 + l.length < k) : impl_IndexFiles.f (2 * k) l = some (ifV l) := by
  unfold impl_IndexFiles.f ifV
  have hsl := stageL_len l 0
  rw [impl_index l hl hs k (by omega), Option.bind_some, impl_clashes l hl, Option.bind_some, codeIf_busy, Option.bind_some, show impl_firstCode.f (2 * k) ([indexV l, (if decide (((X.compactB (X.clashP l)).length : Int) > 0) = true then 8 else 0)] : List Int) = _ from firstCode_two _ _ _ (by omega), Option.bind_some]
  by_cases h : indexV l = 0
  · rw [if_pos h, if_pos h, compact_clash l h]
    by_cases hc : (X.clashS l).length > 0
    · have e0 : (if decide (((X.clashS l).length : Int) > 0) = true then (8 : Int) else 0) = 8 := by rw [decide_eq_true (by omega)]; rfl
      rw [e0, if_neg (by decide), if_pos hc]
    · have e0 : (if decide (((X.clashS l).length : Int) > 0) = true then (8 : Int) else 0) = 0 := by rw [decide_eq_false (by omega)]; rfl
      rw [e0, if_pos rfl, if_neg hc, impl_stage l 0 hl (2 * k) (by omega), Option.bind_some]
      unfold impl_rightFiles.f
      rw [impl_files (stageL l 0) (by omega) (stageL_small l 0 hs) (2 * k) (by omega), Option.bind_some]
      by_cases hf : filesV (stageL l 0) = 0
      · rw [if_pos hf, if_pos hf]; rfl
      · rw [if_neg hf, if_neg hf]; rfl
  · rw [if_neg h, if_neg h, if_neg h]
theorem impl_indexFiles_any (l : List IEntry) (hl : l.length ≤ 1048576) (hs : iSmall l) (k : Nat) (hk : 2105602 + 2 * l.length < k) : impl_IndexFiles.f k l = some (ifV l) := by
  have h := impl_indexFiles_tells l hl hs (k / 2) (by omega)
  rcases Nat.mod_two_eq_zero_or_one k with e | e
  · rwa [show 2 * (k / 2) = k by omega] at h
  · have := impl_IndexFiles.mono _ _ _ h
    rwa [show 2 * (k / 2) + 1 = k by omega] at this
theorem indexFiles_pure (l : List LEntry) (hl1 : l.length * 48 ≤ 140737488351232) (hl2 : ∀ x ∈ l, x.f0.size ≤ 140737488351232 ∧ (Go.Lit.int .i64 x.f1).wf = true ∧ (Go.Lit.int .i64 x.f2).wf = true ∧ x.f3.size ≤ 140737488351232) : ∃ k, laws_FnExactIndexFiles.f k l = some true := by
  obtain ⟨m, hm0⟩ : ∃ m, m = l.length + 1052810 := ⟨_, rfl⟩
  obtain ⟨K, hK⟩ : ∃ K, 2 * m = K + 1 := ⟨2 * m - 1, by omega⟩
  refine ⟨2 * m, ?_⟩
  unfold laws_FnExactIndexFiles.f
  obtain ⟨r, hr, hq⟩ := szEntryS_tells l (by omega) (fun x hx => ⟨(hl2 x hx).1, (hl2 x hx).2.2.2⟩) 1048576 (by decide) (by decide) (2 * m) (by omega)
  rw [hr, Option.bind_some]
  by_cases c : r < 0
  · rw [if_pos c]
  obtain ⟨hn, hs⟩ := hq (by omega)
  have hm : (l.map entryConv).length = l.length := List.length_map _
  have hv := ifV_len (l.map entryConv)
  have e1 := toEntryS_tells l hn (2 * m) (by omega)
  have e2 := spec_indexFiles (l.map entryConv) (by omega) (conv_small hs) m (by omega)
  have e3 := impl_indexFiles_tells (l.map entryConv) (by omega) (conv_small hs) m (by omega)
  have e4 := eqEntryS_same (l.map entryConv) (by omega) (2 * m) (by omega)
  have e5 := markEntryS_tells (l.map entryConv) 1 (by omega) (2 * m) (by omega)
  have e6 := eqFilesResult_same (ifV (l.map entryConv)).1 (ifV (l.map entryConv)).2 (by omega) (2 * m) (by omega)
  rw [if_neg c]
  simp only [e1, e2, e3, e4, e6, Option.bind_some, if_true]
  rw [show laws_markEntryS.f (2 * m) (l.map entryConv) 1 = _ from e5, Option.bind_some, if_neg (by omega)]
  rw [hK, laws_FnExactIndexFiles.j0, if_neg (by decide)]
  have m1 := markFileS_tells (ifV (l.map entryConv)).2 1 (by omega) K (by omega)
  have m2 := heldFileS_tells (ifV (l.map entryConv)).2.length 1 (by omega) K (by omega)
  have e1' := toEntryS_tells l hn K (by omega)
  have e3' := impl_indexFiles_any (l.map entryConv) (by omega) (conv_small hs) K (by omega)
  have e6' := eqFilesResult_same (ifV (l.map entryConv)).1 (ifV (l.map entryConv)).2 (by omega) K (by omega)
  unfold laws_markFilesResult.f laws_heldFilesResult.f
  rw [show laws_markFileS.f K (ifV (l.map entryConv)).2 1 = _ from m1]
  simp only [Option.bind_some]
  rw [show laws_heldFileS.f K (fileMarks 1 (ifV (l.map entryConv)).2.length) 1 = _ from m2]
  simp only [Option.bind_some]
  rw [if_neg (by omega)]
  simp only [Option.bind_some]
  rw [if_neg (by omega)]
  simp only [e1', e3', e6', Option.bind_some, if_true]
  rw [if_neg (by omega)]
end Go.Proofs.YtjibadlbiapcmaaDoorX
