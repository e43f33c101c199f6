/- Texts of this claim set one behind another by wip/bundle.py: PXf62, PXf40, PXf57, PXf68, PXf81, PXf117, PXf65, PXf43, PXf132, PXf158, PXf128, PXf95, PXf37, XMark, PXf16, XObjR, PXf115, PXf84, XDigest, PXf79, XCode, PXf78, PXf80, PXf56, PXf82, PXf153, PXf119, PXf152, PXf118, PXf26. -/
import Derived.Test.YtpnoghcdfbmpoaaGreatDoorBLT15
import Derived.Test.YtpnoghcdfbmpoaaGreatDoorBLT10
namespace Go.Proofs.YtpnoghcdfbmpoaaGreatDoor.PX
open Go.RowKit Go.Proofs.YtpnoghcdfbmpoaaGreatDoorW.PrintWords Go.Proofs.YtpnoghcdfbmpoaaGreatDoorW.PrintLast Go.Proofs.YtpnoghcdfbmpoaaGreatDoorW.PrintMore
attribute [local go_sem] max2_int min2_int max_two min_two max_three min_three max_four min_four   -- for this text's walks alone
set_option linter.unusedVariables false
set_option linter.unusedSimpArgs false
mutual
def spec_l6Uncommit.l0 : Nat → List ByteArray → Int → Int → ByteArray → List ByteArray → Int → ByteArray → Option (ByteArray × List ByteArray × Int × ByteArray × Bool)
 | 0, _, _, _, _, _, _, _ => none
 | k + 1, x5, x6, x7, x147000, x147001, x147002, x147003 => if x7 < x6 then (if 0 ≤ x7 then (if x7 < (x5.length : Int) then ((spec_l6Unline.f (rdOf ByteArray.empty x5 x7)).bind fun bt152 => (if x7 = 0 then (spec_l6Uncommit.j1 k x5 x6 x7 bt152.1 bt152.2 (⟨#[116, 114, 101, 101]⟩ : ByteArray) x147000 x147001 x147002 x147003) else (spec_l6Uncommit.j1 k x5 x6 x7 bt152.1 bt152.2 (⟨#[112, 97, 114, 101, 110, 116]⟩ : ByteArray) x147000 x147001 x147002 x147003))) else (none)) else (none)) else ((spec_CommitFault.f k x147000 x147001 x147002 x147003).bind fun t150 => (some (x147000, x147001, x147002, x147003, (t150 == 0))))
def spec_l6Uncommit.j1 : Nat → List ByteArray → Int → Int → ByteArray → Bool → ByteArray → ByteArray → List ByteArray → Int → ByteArray → Option (ByteArray × List ByteArray × Int × ByteArray × Bool)
 | 0, _, _, _, _, _, _, _, _, _, _ => none
 | k + 1, x5, x6, x7, x8, x9, x10, x147000, x147001, x147002, x147003 => if x7 = (wrap64 (x6 - 2)) then (spec_l6Uncommit.j2 k x5 x6 x7 x8 x9 (⟨#[116, 105, 109, 101]⟩ : ByteArray) x147000 x147001 x147002 x147003) else (spec_l6Uncommit.j2 k x5 x6 x7 x8 x9 x10 x147000 x147001 x147002 x147003)
def spec_l6Uncommit.j2 : Nat → List ByteArray → Int → Int → ByteArray → Bool → ByteArray → ByteArray → List ByteArray → Int → ByteArray → Option (ByteArray × List ByteArray × Int × ByteArray × Bool)
 | 0, _, _, _, _, _, _, _, _, _, _ => none
 | k + 1, x5, x6, x7, x8, x9, x10, x147000, x147001, x147002, x147003 => if x7 = (wrap64 (x6 - 1)) then (spec_l6Uncommit.j3 k x5 x6 x7 x8 x9 (⟨#[110, 111, 116, 101]⟩ : ByteArray) x147000 x147001 x147002 x147003) else (spec_l6Uncommit.j3 k x5 x6 x7 x8 x9 x10 x147000 x147001 x147002 x147003)
def spec_l6Uncommit.j3 : Nat → List ByteArray → Int → Int → ByteArray → Bool → ByteArray → ByteArray → List ByteArray → Int → ByteArray → Option (ByteArray × List ByteArray × Int × ByteArray × Bool)
 | 0, _, _, _, _, _, _, _, _, _, _ => none
 | k + 1, x5, x6, x7, x8, x9, x10, x147000, x147001, x147002, x147003 => (spec_l6After.f x8 x10).bind fun bt154 => (if x9 = true then (spec_l6Uncommit.j4 k x5 x6 x7 x10 bt154.1 (!bt154.2) x147000 x147001 x147002 x147003) else (spec_l6Uncommit.j4 k x5 x6 x7 x10 bt154.1 true x147000 x147001 x147002 x147003))
def spec_l6Uncommit.j4 : Nat → List ByteArray → Int → Int → ByteArray → ByteArray → Bool → ByteArray → List ByteArray → Int → ByteArray → Option (ByteArray × List ByteArray × Int × ByteArray × Bool)
 | 0, _, _, _, _, _, _, _, _, _, _ => none
 | k + 1, x5, x6, x7, x10, x11, x57, x147000, x147001, x147002, x147003 => if x57 = true then (some (x147000, x147001, x147002, x147003, false)) else (if x10.toList = ([116, 114, 101, 101] : List UInt8) then (spec_l6Uncommit.l0 k x5 x6 (wrap64 (x7 + 1)) x11 x147001 x147002 x147003) else (if x10.toList = ([112, 97, 114, 101, 110, 116] : List UInt8) then (if x147001.length < 8796093022208 then (spec_l6Uncommit.l0 k x5 x6 (wrap64 (x7 + 1)) x147000 (x147001 ++ [x11]) x147002 x147003) else (none)) else (if x10.toList = ([116, 105, 109, 101] : List UInt8) then ((spec_l6Time.f k x11).bind fun bt159 => (if bt159.2 = true then (spec_l6Uncommit.l0 k x5 x6 (wrap64 (x7 + 1)) x147000 x147001 bt159.1 x147003) else (some (x147000, x147001, x147002, x147003, false)))) else (spec_l6Uncommit.l0 k x5 x6 (wrap64 (x7 + 1)) x147000 x147001 x147002 x11))))
end
def spec_l6Uncommit.f (k : Nat) (a0 : ByteArray) : Option (ByteArray × List ByteArray × Int × ByteArray × Bool) := (spec_l1Split.f k a0).bind fun t147 => (if (t147.length : Int) < 3 then (some ((⟨#[]⟩ : ByteArray), ([] : List ByteArray), 0, (⟨#[]⟩ : ByteArray), false)) else (spec_l6Uncommit.l0 k t147 (t147.length : Int) 0 (⟨#[]⟩ : ByteArray) ([] : List ByteArray) 0 (⟨#[]⟩ : ByteArray)))
set_option maxHeartbeats 8000000 in
set_option maxRecDepth 100000 in
theorem spec_l6Uncommit.calls (k : Nat) (a0 : ByteArray) (r1 : ByteArray) (r2 : List ByteArray) (r3 : Int) (r4 : ByteArray) (r5 : Bool) (w : World) (h : spec_l6Uncommit.f k a0 = some (r1, r2, r3, r4, r5)) :
  Calls Tryz.prog 62 #[.string a0] w fun e w' => ∃ v1_ : Value, e = .returned (.tuple #[.agg #[.string r1, v1_, .int .i64 r3, .string r4], .bool r5]) ∧ Kd.R Kd.string 9 w' w.heap.size (fun _ => True) v1_ r2 ∧ Below w.heap.size w w' := by
 have hu60 := Tryz.underlying60
 have HB := zK (Below.refl w.heap.size w)
 have H : ((spec_l1Split.f k a0).bind fun t147 => (if (t147.length : Int) < 3 then (some ((⟨#[]⟩ : ByteArray), ([] : List ByteArray), 0, (⟨#[]⟩ : ByteArray), false)) else (spec_l6Uncommit.l0 k t147 (t147.length : Int) 0 (⟨#[]⟩ : ByteArray) ([] : List ByteArray) 0 (⟨#[]⟩ : ByteArray)))) = some (r1, r2, r3, r4, r5) := h
 clear h
 replace H := Option.bind_eq_some_iff.mp H
 obtain ⟨t147, A20, H⟩ := H
 replace H : (if (t147.length : Int) < 3 then (some ((⟨#[]⟩ : ByteArray), ([] : List ByteArray), 0, (⟨#[]⟩ : ByteArray), false)) else (spec_l6Uncommit.l0 k t147 (t147.length : Int) 0 (⟨#[]⟩ : ByteArray) ([] : List ByteArray) 0 (⟨#[]⟩ : ByteArray))) = some (r1, r2, r3, r4, r5) := H
 have A2 := zK A20
 clear A20
 by_cases c3 : (t147.length : Int) < 3
 ·
  rw [if_pos c3] at H
  have c3b0 : decide ((t147.length : Int) < 3) = true := decide_eq_true c3
  have c3b1 : decide (t147.length < 3) = true := decide_eq_true zq7
  clear c3
  simp only [Option.some.injEq, Prod.mk.injEq] at H
  obtain ⟨rfl, rfl, rfl, rfl, rfl⟩ := H
  go_enter Tryz.func62, Tryz.ntmps62
  go_wp2_with (first | ((with_reducible refine gate_dst (N := 2) rfl ?_); refine box_event ?hg (N := 2) ?hd (cs := #[.string (⟨#[]⟩ : ByteArray), .slice none 0 0, .int .i64 0, .string (⟨#[]⟩ : ByteArray)]) (t := 60) ?hr ?_; (case hd => rfl); (case hg => rfl); (case hr => first | (go_simp; done) | (go_simp; rfl)); intro gb145 hg w4 hbox hb; have n0_ := zK (below_step zq0 hb); have n1_ := zK (hbox); have n2_ := zK ((by rw [hg]; exact (below_size zq0) : w.heap.size ≤ gb145)); have n3_ := zK ((by rw [hg]; exact (below_size zq0) : w.heap.size ≤ gb145)); clear HB; have HB := n0_; have BK145 := n1_; have GW145 := n2_; have GE145 := n3_; clear n0_ n1_ n2_ n3_; clear hb hbox hg) | ((with_reducible refine gate_dst (N := 4) rfl ?_); refine box_event ?hg (N := 4) ?hd (cs := #[.string (⟨#[]⟩ : ByteArray), .slice none 0 0, .int .i64 0, .string (⟨#[]⟩ : ByteArray)]) (t := 60) ?hr ?_; (case hd => rfl); (case hg => rfl); (case hr => first | (go_simp; done) | (go_simp; rfl)); intro gb146 hg w5 hbox hb; have n0_ := zK (blk_below (g := gb145) (o := .cells #[.string (⟨#[]⟩ : ByteArray), .slice none 0 0, .int .i64 0, .string (⟨#[]⟩ : ByteArray)] 60 (0, 0)) (by (with_reducible repeat (first | refine zM ?_ _ | refine zP ?_ | refine zQ ?_ _)); exact BK145.out) hb); have n1_ := zK (below_step (by repeat (first | (with_reducible first | exact HB.out | apply zA | apply zN | apply zD | refine below_set ?_ GE145.out) | exact HB.out)) hb); have n2_ := zK (hbox); have n3_ := zK ((by rw [hg]; exact (below_size (by repeat (first | (with_reducible first | exact HB.out | apply zA | apply zN | apply zD | refine below_set ?_ GE145.out) | exact HB.out))) : w.heap.size ≤ gb146)); have n4_ := zK ((by rw [hg]; exact (below_size (by repeat (first | (with_reducible first | exact HB.out | apply zA | apply zN | apply zD | refine below_set ?_ GE145.out) | exact HB.out))) : w.heap.size ≤ gb146)); have n5_ := zK ((by rw [hg]; exact Nat.ne_of_lt (blk_lt (g := gb145) (o := .cells #[.string (⟨#[]⟩ : ByteArray), .slice none 0 0, .int .i64 0, .string (⟨#[]⟩ : ByteArray)] 60 (0, 0)) (by (with_reducible repeat (first | refine zM ?_ _ | refine zP ?_ | refine zQ ?_ _)); exact BK145.out)) : gb145 ≠ gb146)); have n6_ := zK ((by rw [hg]; exact Nat.ne_of_gt (blk_lt (g := gb145) (o := .cells #[.string (⟨#[]⟩ : ByteArray), .slice none 0 0, .int .i64 0, .string (⟨#[]⟩ : ByteArray)] 60 (0, 0)) (by (with_reducible repeat (first | refine zM ?_ _ | refine zP ?_ | refine zQ ?_ _)); exact BK145.out)) : gb146 ≠ gb145)); clear BK145; clear HB; have BK145 := n0_; have HB := n1_; have BK146 := n2_; have GW146 := n3_; have GE146 := n4_; have NB145_146 := n5_; have NB146_145 := n6_; clear n0_ n1_ n2_ n3_ n4_ n5_ n6_; clear hb hbox hg; have hnb6 := NB146_145.out; have hnc6 := NB145_146.out; have hcz7_0 : w5.cell? ⟨gb146, 0, none⟩ = some (.string (⟨#[]⟩ : ByteArray)) := (blk_cell BK146.out 0).trans rfl; have hcz7_1 : w5.cell? ⟨gb146, 1, none⟩ = some (.slice none 0 0) := (blk_cell BK146.out 1).trans rfl; have hcz7_2 : w5.cell? ⟨gb146, 2, none⟩ = some (.int .i64 0) := (blk_cell BK146.out 2).trans rfl; have hcz7_3 : w5.cell? ⟨gb146, 3, none⟩ = some (.string (⟨#[]⟩ : ByteArray)) := (blk_cell BK146.out 3).trans rfl; have hfz7_0 := blk_frozen BK146.out 0; have hfz7_1 := blk_frozen BK146.out 1; have hfz7_2 := blk_frozen BK146.out 2; have hfz7_3 := blk_frozen BK146.out 3) | ((with_reducible refine gate_callee (f := 87) rfl ?_); refine goesL_ (some 17) rfl rfl Tryz.func87 zq6 rfl #[.string a0] rfl zq1 ?_; (with_reducible refine (spec_l1Split.calls k a0 t147 _ A2.out).mono ?_); rintro e w8 ⟨v148, rfl, ho0, hb⟩; refine ⟨_, rfl, ?_⟩; have n0_ := zK (Kd.R_lower ho0 (below_size (by repeat (first | (with_reducible first | exact HB.out | apply zA | apply zN | apply zD | refine below_set ?_ GE145.out | refine below_set ?_ GE146.out) | exact HB.out)))); have n1_ := zK (blk_below (g := gb145) (o := .cells #[.string (⟨#[]⟩ : ByteArray), .slice none 0 0, .int .i64 0, .string (⟨#[]⟩ : ByteArray)] 60 (0, 0)) (by (with_reducible repeat (first | refine zM ?_ _ | refine zP ?_ | refine zQ ?_ _)); refine blk_far ?_ NB145_146.out _; (with_reducible repeat (first | refine zM ?_ _ | refine zP ?_ | refine zQ ?_ _)); refine blk_far ?_ NB145_146.out _; (with_reducible repeat (first | refine zM ?_ _ | refine zP ?_ | refine zQ ?_ _)); refine blk_far ?_ NB145_146.out _; (with_reducible repeat (first | refine zM ?_ _ | refine zP ?_ | refine zQ ?_ _)); refine blk_far ?_ NB145_146.out _; (with_reducible repeat (first | refine zM ?_ _ | refine zP ?_ | refine zQ ?_ _)); exact BK145.out) hb); have n2_ := zK (blk_below (g := gb146) (o := .cells #[.string (⟨#[]⟩ : ByteArray), .slice none 0 0, .int .i64 0, .string (⟨#[]⟩ : ByteArray)] 60 (0, 0)) (by (with_reducible repeat (first | refine zM ?_ _ | refine zP ?_ | refine zQ ?_ _)); refine blk_put (cs := #[.string (⟨#[]⟩ : ByteArray), .slice none 0 0, .int .i64 0, .string (⟨#[]⟩ : ByteArray)]) ?_ 3 _ rfl; (with_reducible repeat (first | refine zM ?_ _ | refine zP ?_ | refine zQ ?_ _)); refine blk_put (cs := #[.string (⟨#[]⟩ : ByteArray), .slice none 0 0, .int .i64 0, .string (⟨#[]⟩ : ByteArray)]) ?_ 2 _ rfl; (with_reducible repeat (first | refine zM ?_ _ | refine zP ?_ | refine zQ ?_ _)); refine blk_put (cs := #[.string (⟨#[]⟩ : ByteArray), .slice none 0 0, .int .i64 0, .string (⟨#[]⟩ : ByteArray)]) ?_ 1 _ rfl; (with_reducible repeat (first | refine zM ?_ _ | refine zP ?_ | refine zQ ?_ _)); refine blk_put (cs := #[.string (⟨#[]⟩ : ByteArray), .slice none 0 0, .int .i64 0, .string (⟨#[]⟩ : ByteArray)]) ?_ 0 _ rfl; (with_reducible repeat (first | refine zM ?_ _ | refine zP ?_ | refine zQ ?_ _)); exact BK146.out) hb); have n3_ := zK (below_step (by repeat (first | (with_reducible first | exact HB.out | apply zA | apply zN | apply zD | refine below_set ?_ GE145.out | refine below_set ?_ GE146.out) | exact HB.out)) hb); clear BK145; clear BK146; clear HB; have HO149 := n0_; have BK145 := n1_; have BK146 := n2_; have HB := n3_; clear n0_ n1_ n2_ n3_; (try clear hb); (try clear hb2); (try clear hk); (try clear hi); (try clear ho0); obtain ⟨Ao9, co9, eo9⟩ := Kd.R_slice HO149.out; subst eo9; have hcz10_0 : w8.cell? ⟨gb146, 0, none⟩ = some (.string (⟨#[]⟩ : ByteArray)) := (blk_cell BK146.out 0).trans rfl; have hcz10_1 : w8.cell? ⟨gb146, 1, none⟩ = some (.slice none 0 0) := (blk_cell BK146.out 1).trans rfl; have hcz10_2 : w8.cell? ⟨gb146, 2, none⟩ = some (.int .i64 0) := (blk_cell BK146.out 2).trans rfl; have hcz10_3 : w8.cell? ⟨gb146, 3, none⟩ = some (.string (⟨#[]⟩ : ByteArray)) := (blk_cell BK146.out 3).trans rfl; have hfz10_0 := blk_frozen BK146.out 0; have hfz10_1 := blk_frozen BK146.out 1; have hfz10_2 := blk_frozen BK146.out 2; have hfz10_3 := blk_frozen BK146.out 3; have hcz11_0 : w8.cell? ⟨gb145, 0, none⟩ = some (.string (⟨#[]⟩ : ByteArray)) := (blk_cell BK145.out 0).trans rfl; have hcz11_1 : w8.cell? ⟨gb145, 1, none⟩ = some (.slice none 0 0) := (blk_cell BK145.out 1).trans rfl; have hcz11_2 : w8.cell? ⟨gb145, 2, none⟩ = some (.int .i64 0) := (blk_cell BK145.out 2).trans rfl; have hcz11_3 : w8.cell? ⟨gb145, 3, none⟩ = some (.string (⟨#[]⟩ : ByteArray)) := (blk_cell BK145.out 3).trans rfl; have hfz11_0 := blk_frozen BK145.out 0; have hfz11_1 := blk_frozen BK145.out 1; have hfz11_2 := blk_frozen BK145.out 2; have hfz11_3 := blk_frozen BK145.out 3))
  refine bodyPost_ret (results_ct rfl _ _ gb145 60 #[.string (⟨#[]⟩ : ByteArray), .slice none 0 0, .int .i64 0, .string (⟨#[]⟩ : ByteArray)] (0, 0) _ rfl (by (with_reducible repeat (first | refine zM ?_ _ | refine zP ?_ | refine zQ ?_ _)); refine blk_put (cs := #[.string (⟨#[]⟩ : ByteArray), .slice none 0 0, .int .i64 0, .string (⟨#[]⟩ : ByteArray)]) ?_ 3 _ rfl; (with_reducible repeat (first | refine zM ?_ _ | refine zP ?_ | refine zQ ?_ _)); refine blk_put (cs := #[.string (⟨#[]⟩ : ByteArray), .slice none 0 0, .int .i64 0, .string (⟨#[]⟩ : ByteArray)]) ?_ 2 _ rfl; (with_reducible repeat (first | refine zM ?_ _ | refine zP ?_ | refine zQ ?_ _)); refine blk_put (cs := #[.string (⟨#[]⟩ : ByteArray), .slice none 0 0, .int .i64 0, .string (⟨#[]⟩ : ByteArray)]) ?_ 1 _ rfl; (with_reducible repeat (first | refine zM ?_ _ | refine zP ?_ | refine zQ ?_ _)); refine blk_put (cs := #[.string (⟨#[]⟩ : ByteArray), .slice none 0 0, .int .i64 0, .string (⟨#[]⟩ : ByteArray)]) ?_ 0 _ rfl; (with_reducible repeat (first | refine zM ?_ _ | refine zP ?_ | refine zQ ?_ _)); exact BK145.out) Tryz.underlying60 rfl zq6) rfl ?_
  exact ⟨_, zq3, zq11, (by repeat (first | (with_reducible first | exact HB.out | apply zA | apply zN | apply zD | refine below_set ?_ GE145.out | refine below_set ?_ GE146.out) | exact HB.out))⟩
 rw [if_neg c3] at H
 have c3b0 : decide ((t147.length : Int) < 3) = false := decide_eq_false c3
 have c3b1 : decide (t147.length < 3) = false := decide_eq_false zq7
 clear c3
 have H' := zK H
 clear H
 go_enter Tryz.func62, Tryz.ntmps62
 go_wp2_with (first | ((with_reducible refine gate_dst (N := 2) rfl ?_); refine box_event ?hg (N := 2) ?hd (cs := #[.string (⟨#[]⟩ : ByteArray), .slice none 0 0, .int .i64 0, .string (⟨#[]⟩ : ByteArray)]) (t := 60) ?hr ?_; (case hd => rfl); (case hg => rfl); (case hr => first | (go_simp; done) | (go_simp; rfl)); intro gb145 hg w12 hbox hb; have n0_ := zK (below_step zq0 hb); have n1_ := zK (hbox); have n2_ := zK ((by rw [hg]; exact (below_size zq0) : w.heap.size ≤ gb145)); have n3_ := zK ((by rw [hg]; exact (below_size zq0) : w.heap.size ≤ gb145)); clear HB; have HB := n0_; have BK145 := n1_; have GW145 := n2_; have GE145 := n3_; clear n0_ n1_ n2_ n3_; clear hb hbox hg) | ((with_reducible refine gate_dst (N := 4) rfl ?_); refine box_event ?hg (N := 4) ?hd (cs := #[.string (⟨#[]⟩ : ByteArray), .slice none 0 0, .int .i64 0, .string (⟨#[]⟩ : ByteArray)]) (t := 60) ?hr ?_; (case hd => rfl); (case hg => rfl); (case hr => first | (go_simp; done) | (go_simp; rfl)); intro gb146 hg w13 hbox hb; have n0_ := zK (blk_below (g := gb145) (o := .cells #[.string (⟨#[]⟩ : ByteArray), .slice none 0 0, .int .i64 0, .string (⟨#[]⟩ : ByteArray)] 60 (0, 0)) (by (with_reducible repeat (first | refine zM ?_ _ | refine zP ?_ | refine zQ ?_ _)); exact BK145.out) hb); have n1_ := zK (below_step (by repeat (first | (with_reducible first | exact HB.out | apply zA | apply zN | apply zD | refine below_set ?_ GE145.out) | exact HB.out)) hb); have n2_ := zK (hbox); have n3_ := zK ((by rw [hg]; exact (below_size (by repeat (first | (with_reducible first | exact HB.out | apply zA | apply zN | apply zD | refine below_set ?_ GE145.out) | exact HB.out))) : w.heap.size ≤ gb146)); have n4_ := zK ((by rw [hg]; exact (below_size (by repeat (first | (with_reducible first | exact HB.out | apply zA | apply zN | apply zD | refine below_set ?_ GE145.out) | exact HB.out))) : w.heap.size ≤ gb146)); have n5_ := zK ((by rw [hg]; exact Nat.ne_of_lt (blk_lt (g := gb145) (o := .cells #[.string (⟨#[]⟩ : ByteArray), .slice none 0 0, .int .i64 0, .string (⟨#[]⟩ : ByteArray)] 60 (0, 0)) (by (with_reducible repeat (first | refine zM ?_ _ | refine zP ?_ | refine zQ ?_ _)); exact BK145.out)) : gb145 ≠ gb146)); have n6_ := zK ((by rw [hg]; exact Nat.ne_of_gt (blk_lt (g := gb145) (o := .cells #[.string (⟨#[]⟩ : ByteArray), .slice none 0 0, .int .i64 0, .string (⟨#[]⟩ : ByteArray)] 60 (0, 0)) (by (with_reducible repeat (first | refine zM ?_ _ | refine zP ?_ | refine zQ ?_ _)); exact BK145.out)) : gb146 ≠ gb145)); clear BK145; clear HB; have BK145 := n0_; have HB := n1_; have BK146 := n2_; have GW146 := n3_; have GE146 := n4_; have NB145_146 := n5_; have NB146_145 := n6_; clear n0_ n1_ n2_ n3_ n4_ n5_ n6_; clear hb hbox hg; have hnb14 := NB146_145.out; have hnc14 := NB145_146.out; have hcz15_0 : w13.cell? ⟨gb146, 0, none⟩ = some (.string (⟨#[]⟩ : ByteArray)) := (blk_cell BK146.out 0).trans rfl; have hcz15_1 : w13.cell? ⟨gb146, 1, none⟩ = some (.slice none 0 0) := (blk_cell BK146.out 1).trans rfl; have hcz15_2 : w13.cell? ⟨gb146, 2, none⟩ = some (.int .i64 0) := (blk_cell BK146.out 2).trans rfl; have hcz15_3 : w13.cell? ⟨gb146, 3, none⟩ = some (.string (⟨#[]⟩ : ByteArray)) := (blk_cell BK146.out 3).trans rfl; have hfz15_0 := blk_frozen BK146.out 0; have hfz15_1 := blk_frozen BK146.out 1; have hfz15_2 := blk_frozen BK146.out 2; have hfz15_3 := blk_frozen BK146.out 3) | ((with_reducible refine gate_callee (f := 87) rfl ?_); refine goesL_ (some 17) rfl rfl Tryz.func87 zq6 rfl #[.string a0] rfl zq1 ?_; (with_reducible refine (spec_l1Split.calls k a0 t147 _ A2.out).mono ?_); rintro e w16 ⟨v148, rfl, ho0, hb⟩; refine ⟨_, rfl, ?_⟩; have n0_ := zK (Kd.R_lower ho0 (below_size (by repeat (first | (with_reducible first | exact HB.out | apply zA | apply zN | apply zD | refine below_set ?_ GE145.out | refine below_set ?_ GE146.out) | exact HB.out)))); have n1_ := zK (blk_below (g := gb145) (o := .cells #[.string (⟨#[]⟩ : ByteArray), .slice none 0 0, .int .i64 0, .string (⟨#[]⟩ : ByteArray)] 60 (0, 0)) (by (with_reducible repeat (first | refine zM ?_ _ | refine zP ?_ | refine zQ ?_ _)); refine blk_far ?_ NB145_146.out _; (with_reducible repeat (first | refine zM ?_ _ | refine zP ?_ | refine zQ ?_ _)); refine blk_far ?_ NB145_146.out _; (with_reducible repeat (first | refine zM ?_ _ | refine zP ?_ | refine zQ ?_ _)); refine blk_far ?_ NB145_146.out _; (with_reducible repeat (first | refine zM ?_ _ | refine zP ?_ | refine zQ ?_ _)); refine blk_far ?_ NB145_146.out _; (with_reducible repeat (first | refine zM ?_ _ | refine zP ?_ | refine zQ ?_ _)); exact BK145.out) hb); have n2_ := zK (blk_below (g := gb146) (o := .cells #[.string (⟨#[]⟩ : ByteArray), .slice none 0 0, .int .i64 0, .string (⟨#[]⟩ : ByteArray)] 60 (0, 0)) (by (with_reducible repeat (first | refine zM ?_ _ | refine zP ?_ | refine zQ ?_ _)); refine blk_put (cs := #[.string (⟨#[]⟩ : ByteArray), .slice none 0 0, .int .i64 0, .string (⟨#[]⟩ : ByteArray)]) ?_ 3 _ rfl; (with_reducible repeat (first | refine zM ?_ _ | refine zP ?_ | refine zQ ?_ _)); refine blk_put (cs := #[.string (⟨#[]⟩ : ByteArray), .slice none 0 0, .int .i64 0, .string (⟨#[]⟩ : ByteArray)]) ?_ 2 _ rfl; (with_reducible repeat (first | refine zM ?_ _ | refine zP ?_ | refine zQ ?_ _)); refine blk_put (cs := #[.string (⟨#[]⟩ : ByteArray), .slice none 0 0, .int .i64 0, .string (⟨#[]⟩ : ByteArray)]) ?_ 1 _ rfl; (with_reducible repeat (first | refine zM ?_ _ | refine zP ?_ | refine zQ ?_ _)); refine blk_put (cs := #[.string (⟨#[]⟩ : ByteArray), .slice none 0 0, .int .i64 0, .string (⟨#[]⟩ : ByteArray)]) ?_ 0 _ rfl; (with_reducible repeat (first | refine zM ?_ _ | refine zP ?_ | refine zQ ?_ _)); exact BK146.out) hb); have n3_ := zK (below_step (by repeat (first | (with_reducible first | exact HB.out | apply zA | apply zN | apply zD | refine below_set ?_ GE145.out | refine below_set ?_ GE146.out) | exact HB.out)) hb); clear BK145; clear BK146; clear HB; have HO149 := n0_; have BK145 := n1_; have BK146 := n2_; have HB := n3_; clear n0_ n1_ n2_ n3_; (try clear hb); (try clear hb2); (try clear hk); (try clear hi); (try clear ho0); obtain ⟨Ao17, co17, eo17⟩ := Kd.R_slice HO149.out; subst eo17))
 go_loopg [7] k (fun kq v7 w' => ∃ (x7_1 : Int) (x146000_1 : ByteArray) (x146002_1 : Int) (x146003_1 : ByteArray) (x147000_1 : ByteArray) (x147001_1 : List ByteArray) (x147002_1 : Int) (x147003_1 : ByteArray) (u147001 : Value), v7 = .int .i64 x7_1 ∧ Aside0 (spec_l6Uncommit.l0 kq t147 (t147.length : Int) x7_1 x147000_1 x147001_1 x147002_1 x147003_1 = some (r1, r2, r3, r4, r5)) ∧ Aside0 (kq ≤ k) ∧ Aside0 (Kd.R Kd.string 9 w' w.heap.size (fun k_ => some k_ ≠ (u147001 : Value).ownBlock) (.slice Ao17 t147.length co17) t147) ∧ Aside0 (Kd.R Kd.string 9 w' w.heap.size (fun k_ => some k_ ≠ ((.slice Ao17 t147.length co17) : Value).ownBlock) u147001 x147001_1) ∧ Aside0 (w'.heap[gb145]? = some (.cells #[.string x146000_1, (.slice none 0 0), .int .i64 x146002_1, .string x146003_1] 60 (0, 0))) ∧ Aside0 (w'.heap[gb146]? = some (.cells #[.string x147000_1, u147001, .int .i64 x147002_1, .string x147003_1] 60 (0, 0))) ∧ Aside0 (Below w.heap.size w w'))
 case atStart => exact ⟨(0), ((⟨#[]⟩ : ByteArray)), (0), ((⟨#[]⟩ : ByteArray)), ((⟨#[]⟩ : ByteArray)), (([] : List ByteArray)), (0), ((⟨#[]⟩ : ByteArray)), (.slice none 0 0), zq5, H', ⟨Nat.le_refl _⟩, ⟨by (with_reducible repeat (first | apply zR | apply zV | apply zW)); exact Kd.R_mono HO149.out (fun _ hk => (by simp [Value.ownBlock]))⟩, ⟨by first | exact Kd.R_nil _ _ _ _ _ | exact Kd.N_nil _ _ _ _ _ | exact Kd.V_nil _ _ _ _ _ | exact Kd.Q_nil _ _ _ _ _ | exact Kd.S_nil _ _ _ _ _⟩, ⟨by (with_reducible repeat (first | refine zM ?_ _ | refine zP ?_ | refine zQ ?_ _)); exact BK145.out⟩, ⟨by (with_reducible repeat (first | refine zM ?_ _ | refine zP ?_ | refine zQ ?_ _)); exact BK146.out⟩, ⟨by repeat (first | (with_reducible first | exact HB.out | apply zA | apply zN | apply zD | refine below_set ?_ GE145.out | refine below_set ?_ GE146.out) | exact HB.out)⟩⟩
 case round =>
  clear H'
  try clear c1
  try clear p2
  try clear c3
  try clear c3b0
  try clear c3b1
  try clear c6
  try clear c8
  try clear c14
  try clear hcz10_0
  try clear hcz10_1
  try clear hcz10_2
  try clear hcz10_3
  try clear hcz11_0
  try clear hcz11_1
  try clear hcz11_2
  try clear hcz11_3
  try clear hcz15_0
  try clear hcz15_1
  try clear hcz15_2
  try clear hcz15_3
  try clear hcz7_0
  try clear hcz7_1
  try clear hcz7_2
  try clear hcz7_3
  try clear hfz10_0
  try clear hfz10_1
  try clear hfz10_2
  try clear hfz10_3
  try clear hfz11_0
  try clear hfz11_1
  try clear hfz11_2
  try clear hfz11_3
  try clear hfz15_0
  try clear hfz15_1
  try clear hfz15_2
  try clear hfz15_3
  try clear hfz7_0
  try clear hfz7_1
  try clear hfz7_2
  try clear hfz7_3
  obtain ⟨x7_1, x146000_1, x146002_1, x146003_1, x147000_1, x147001_1, x147002_1, x147003_1, u147001, rfl, HA, HK1, HO_5, HO_147001, BK145, BK146, HB⟩ := hrel
  cases gk with
  | zero => exact absurd HA.out (by simp [spec_l6Uncommit.l0])
  | succ k1 =>
   have H := HA.out
   clear HA
   simp only [spec_l6Uncommit.l0] at H
   by_cases c18 : x7_1 < (t147.length : Int)
   ·
    rw [if_pos c18] at H
    have c18b0 : decide (x7_1 < (t147.length : Int)) = true := decide_eq_true c18
    clear c18
    by_cases c19 : 0 ≤ x7_1
    ·
     rw [if_pos c19] at H
     have c19b0 : decide (0 ≤ x7_1) = true := decide_eq_true c19
     clear c19
     by_cases c20 : x7_1 < (t147.length : Int)
     ·
      rw [if_pos c20] at H
      have c20b0 : decide (x7_1 < (t147.length : Int)) = true := decide_eq_true c20
      clear c20
      replace H := Option.bind_eq_some_iff.mp H
      obtain ⟨⟨t152, t153⟩, A210, H⟩ := H
      replace H : (if x7_1 = 0 then (spec_l6Uncommit.j1 k1 t147 (t147.length : Int) x7_1 t152 t153 (⟨#[116, 114, 101, 101]⟩ : ByteArray) x147000_1 x147001_1 x147002_1 x147003_1) else (spec_l6Uncommit.j1 k1 t147 (t147.length : Int) x7_1 t152 t153 (⟨#[112, 97, 114, 101, 110, 116]⟩ : ByteArray) x147000_1 x147001_1 x147002_1 x147003_1)) = some (r1, r2, r3, r4, r5) := H
      have A21 := zK A210
      clear A210
      have HC22 := zK H
      clear H
      have p151 : 0 ≤ (x7_1 : Int) := zX zq2
      have q151 : x7_1 < (t147.length : Int) := zX zq2
      obtain ⟨ad151, e151, hx151_0⟩ := Kd.at_string (Kd.R_reads' HO_5.out).2.2 x7_1 p151 q151
      cases e151
      replace p151 := eq_true p151
      replace q151 := eq_true q151
      go_upto_if 37 with (first | ((with_reducible refine gate_callee (f := 88) rfl ?_); refine goesL_ (some 33) rfl rfl Tryz.func88 zq6 rfl #[.string (rdOf ByteArray.empty t147 x7_1)] rfl zq1 ?_; (with_reducible refine (spec_l6Unline.calls (rdOf ByteArray.empty t147 x7_1) t152 t153 _ A21.out).mono ?_); rintro e w' ⟨rfl, ⟨nd, rfl⟩⟩; refine ⟨_, rfl, ?_⟩))
      (try simp only [Act.put, zS, zT, zU])
      go_cut [10] (fun v10 wc => ∃ (kq : Nat) (x10_21 : ByteArray), v10 = .string x10_21 ∧ Aside0 (spec_l6Uncommit.j1 kq t147 (t147.length : Int) x7_1 t152 t153 x10_21 x147000_1 x147001_1 x147002_1 x147003_1 = some (r1, r2, r3, r4, r5)) ∧ Aside0 (kq ≤ k1) ∧ Aside0 (Kd.R Kd.string 9 wc w.heap.size (fun k_ => some k_ ≠ (u147001 : Value).ownBlock) (.slice (some ad151) t147.length co17) t147) ∧ Aside0 (Kd.R Kd.string 9 wc w.heap.size (fun k_ => some k_ ≠ ((.slice (some ad151) t147.length co17) : Value).ownBlock) u147001 x147001_1) ∧ Aside0 (wc.heap[gb145]? = some (.cells #[.string x146000_1, (.slice none 0 0), .int .i64 x146002_1, .string x146003_1] 60 (0, 0))) ∧ Aside0 (wc.heap[gb146]? = some (.cells #[.string x147000_1, u147001, .int .i64 x147002_1, .string x147003_1] 60 (0, 0))) ∧ Aside0 (Below w.heap.size w wc))
      case first =>
       have H := HC22.out
       clear HC22
       by_cases c23 : x7_1 = 0
       ·
        rw [if_pos c23] at H
        have c23b0 : (x7_1 == 0) = true := beq_iff_eq.mpr c23
        have c23b1 : (x7_1 != 0) = false := bne_eq_false_iff_eq.mpr c23
        clear c23
        (first | rw [c23b0] | (simp only [i64_w, i32_w]; rw [c23b0]) | skip)
        have H' := zK H
        clear H
        go_wp2
        go_meet
        case rel => exact ⟨_, ((⟨#[116, 114, 101, 101]⟩ : ByteArray)), zq5, H', ⟨by have := HK1.out; first | omega | exact Nat.le_refl _⟩, ⟨by (with_reducible repeat (first | apply zR | apply zV | apply zW)); exact HO_5.out⟩, ⟨by (with_reducible repeat (first | apply zR | apply zV | apply zW)); exact HO_147001.out⟩, ⟨by (with_reducible repeat (first | refine zM ?_ _ | refine zP ?_ | refine zQ ?_ _)); exact BK145.out⟩, ⟨by (with_reducible repeat (first | refine zM ?_ _ | refine zP ?_ | refine zQ ?_ _)); exact BK146.out⟩, ⟨by repeat (first | (with_reducible first | exact HB.out | apply zA | apply zN | apply zD | refine below_set ?_ GE145.out | refine below_set ?_ GE146.out) | exact HB.out)⟩⟩
       rw [if_neg c23] at H
       have c23b0 : (x7_1 == 0) = false := beq_eq_false_iff_ne.mpr c23
       have c23b1 : (x7_1 != 0) = true := bne_iff_ne.mpr c23
       (first | rw [c23b0] | (simp only [i64_w, i32_w]; rw [c23b0]) | skip)
       have H' := zK H
       clear H
       go_wp2
       go_meet
       case rel => exact ⟨_, ((⟨#[112, 97, 114, 101, 110, 116]⟩ : ByteArray)), zq5, H', ⟨by have := HK1.out; first | omega | exact Nat.le_refl _⟩, ⟨by (with_reducible repeat (first | apply zR | apply zV | apply zW)); exact HO_5.out⟩, ⟨by (with_reducible repeat (first | apply zR | apply zV | apply zW)); exact HO_147001.out⟩, ⟨by (with_reducible repeat (first | refine zM ?_ _ | refine zP ?_ | refine zQ ?_ _)); exact BK145.out⟩, ⟨by (with_reducible repeat (first | refine zM ?_ _ | refine zP ?_ | refine zQ ?_ _)); exact BK146.out⟩, ⟨by repeat (first | (with_reducible first | exact HB.out | apply zA | apply zN | apply zD | refine below_set ?_ GE145.out | refine below_set ?_ GE146.out) | exact HB.out)⟩⟩
      case rest =>
       clear HC22
       try clear c1
       try clear p1
       try clear q1
       try clear hx1
       try clear c2
       try clear p2
       try clear c3
       try clear c3b0
       try clear c3b1
       try clear c6
       try clear c8
       try clear c14
       try clear p15
       try clear q15
       try clear hx15
       try clear c18
       try clear c18b0
       try clear c19
       try clear c19b0
       try clear c20
       try clear c20b0
       try clear c23
       try clear c23b0
       try clear c23b1
       try clear hcz10_0
       try clear hcz10_1
       try clear hcz10_2
       try clear hcz10_3
       try clear hcz11_0
       try clear hcz11_1
       try clear hcz11_2
       try clear hcz11_3
       try clear hcz15_0
       try clear hcz15_1
       try clear hcz15_2
       try clear hcz15_3
       try clear hcz7_0
       try clear hcz7_1
       try clear hcz7_2
       try clear hcz7_3
       try clear hfz10_0
       try clear hfz10_1
       try clear hfz10_2
       try clear hfz10_3
       try clear hfz11_0
       try clear hfz11_1
       try clear hfz11_2
       try clear hfz11_3
       try clear hfz15_0
       try clear hfz15_1
       try clear hfz15_2
       try clear hfz15_3
       try clear hfz7_0
       try clear hfz7_1
       try clear hfz7_2
       try clear hfz7_3
       try clear hx151_0
       try clear p151
       try clear p2
       try clear q151
       obtain ⟨kq, x10_21, rfl, HA, HJ21, HO_5, HO_147001, BK145, BK146, HB⟩ := hcut
       cases kq with
       | zero => exact absurd HA.out (by simp [spec_l6Uncommit.j1])
       | succ kj21 =>
        have H := HA.out
        clear HA
        simp only [spec_l6Uncommit.j1] at H
        have HC24 := zK H
        clear H
        go_upto_if 41 with (fail)
        go_cut [10] (fun v10 wc => ∃ (kq : Nat) (x10_23 : ByteArray), v10 = .string x10_23 ∧ Aside0 (spec_l6Uncommit.j2 kq t147 (t147.length : Int) x7_1 t152 t153 x10_23 x147000_1 x147001_1 x147002_1 x147003_1 = some (r1, r2, r3, r4, r5)) ∧ Aside0 (kq ≤ kj21) ∧ Aside0 (Kd.R Kd.string 9 wc w.heap.size (fun k_ => some k_ ≠ (u147001 : Value).ownBlock) (.slice (some ad151) t147.length co17) t147) ∧ Aside0 (Kd.R Kd.string 9 wc w.heap.size (fun k_ => some k_ ≠ ((.slice (some ad151) t147.length co17) : Value).ownBlock) u147001 x147001_1) ∧ Aside0 (wc.heap[gb145]? = some (.cells #[.string x146000_1, (.slice none 0 0), .int .i64 x146002_1, .string x146003_1] 60 (0, 0))) ∧ Aside0 (wc.heap[gb146]? = some (.cells #[.string x147000_1, u147001, .int .i64 x147002_1, .string x147003_1] 60 (0, 0))) ∧ Aside0 (Below w.heap.size w wc))
        case first =>
         have H := HC24.out
         clear HC24
         by_cases c25 : x7_1 = (wrap64 ((t147.length : Int) - 2))
         ·
          rw [if_pos c25] at H
          have c25b0 : (x7_1 == (wrap64 ((t147.length : Int) - 2))) = true := beq_iff_eq.mpr c25
          have c25b1 : (x7_1 != (wrap64 ((t147.length : Int) - 2))) = false := bne_eq_false_iff_eq.mpr c25
          clear c25
          (first | rw [c25b0] | (simp only [i64_w, i32_w]; rw [c25b0]) | skip)
          have H' := zK H
          clear H
          go_wp2
          go_meet
          case rel => exact ⟨_, ((⟨#[116, 105, 109, 101]⟩ : ByteArray)), zq5, H', ⟨by have := HK1.out; have := HJ21.out; first | omega | exact Nat.le_refl _⟩, ⟨by (with_reducible repeat (first | apply zR | apply zV | apply zW)); exact HO_5.out⟩, ⟨by (with_reducible repeat (first | apply zR | apply zV | apply zW)); exact HO_147001.out⟩, ⟨by (with_reducible repeat (first | refine zM ?_ _ | refine zP ?_ | refine zQ ?_ _)); exact BK145.out⟩, ⟨by (with_reducible repeat (first | refine zM ?_ _ | refine zP ?_ | refine zQ ?_ _)); exact BK146.out⟩, ⟨by repeat (first | (with_reducible first | exact HB.out | apply zA | apply zN | apply zD | refine below_set ?_ GE145.out | refine below_set ?_ GE146.out) | exact HB.out)⟩⟩
         rw [if_neg c25] at H
         have c25b0 : (x7_1 == (wrap64 ((t147.length : Int) - 2))) = false := beq_eq_false_iff_ne.mpr c25
         have c25b1 : (x7_1 != (wrap64 ((t147.length : Int) - 2))) = true := bne_iff_ne.mpr c25
         (first | rw [c25b0] | (simp only [i64_w, i32_w]; rw [c25b0]) | skip)
         have H' := zK H
         clear H
         go_wp2
         go_meet
         case rel => exact ⟨_, (x10_21), zq5, H', ⟨by have := HK1.out; have := HJ21.out; first | omega | exact Nat.le_refl _⟩, ⟨by (with_reducible repeat (first | apply zR | apply zV | apply zW)); exact HO_5.out⟩, ⟨by (with_reducible repeat (first | apply zR | apply zV | apply zW)); exact HO_147001.out⟩, ⟨by (with_reducible repeat (first | refine zM ?_ _ | refine zP ?_ | refine zQ ?_ _)); exact BK145.out⟩, ⟨by (with_reducible repeat (first | refine zM ?_ _ | refine zP ?_ | refine zQ ?_ _)); exact BK146.out⟩, ⟨by repeat (first | (with_reducible first | exact HB.out | apply zA | apply zN | apply zD | refine below_set ?_ GE145.out | refine below_set ?_ GE146.out) | exact HB.out)⟩⟩
        case rest =>
         clear HC24
         try clear c1
         try clear p1
         try clear q1
         try clear hx1
         try clear c2
         try clear p2
         try clear c3
         try clear c3b0
         try clear c3b1
         try clear c6
         try clear p6
         try clear c8
         try clear c14
         try clear p15
         try clear q15
         try clear hx15
         try clear c18
         try clear c18b0
         try clear c19
         try clear c19b0
         try clear c20
         try clear c20b0
         try clear c23
         try clear c23b0
         try clear c23b1
         try clear c25
         try clear c25b0
         try clear c25b1
         try clear hcz10_0
         try clear hcz10_1
         try clear hcz10_2
         try clear hcz10_3
         try clear hcz11_0
         try clear hcz11_1
         try clear hcz11_2
         try clear hcz11_3
         try clear hcz15_0
         try clear hcz15_1
         try clear hcz15_2
         try clear hcz15_3
         try clear hcz7_0
         try clear hcz7_1
         try clear hcz7_2
         try clear hcz7_3
         try clear hfz10_0
         try clear hfz10_1
         try clear hfz10_2
         try clear hfz10_3
         try clear hfz11_0
         try clear hfz11_1
         try clear hfz11_2
         try clear hfz11_3
         try clear hfz15_0
         try clear hfz15_1
         try clear hfz15_2
         try clear hfz15_3
         try clear hfz7_0
         try clear hfz7_1
         try clear hfz7_2
         try clear hfz7_3
         try clear hx151_0
         try clear p1
         try clear p15
         try clear p151
         try clear p2
         try clear q1
         try clear q15
         try clear q151
         obtain ⟨kq, x10_23, rfl, HA, HJ23, HO_5, HO_147001, BK145, BK146, HB⟩ := hcut
         cases kq with
         | zero => exact absurd HA.out (by simp [spec_l6Uncommit.j2])
         | succ kj23 =>
          have H := HA.out
          clear HA
          simp only [spec_l6Uncommit.j2] at H
          have HC26 := zK H
          clear H
          go_upto_if 45 with (fail)
          go_cut [10] (fun v10 wc => ∃ (kq : Nat) (x10_25 : ByteArray), v10 = .string x10_25 ∧ Aside0 (spec_l6Uncommit.j3 kq t147 (t147.length : Int) x7_1 t152 t153 x10_25 x147000_1 x147001_1 x147002_1 x147003_1 = some (r1, r2, r3, r4, r5)) ∧ Aside0 (kq ≤ kj23) ∧ Aside0 (Kd.R Kd.string 9 wc w.heap.size (fun k_ => some k_ ≠ (u147001 : Value).ownBlock) (.slice (some ad151) t147.length co17) t147) ∧ Aside0 (Kd.R Kd.string 9 wc w.heap.size (fun k_ => some k_ ≠ ((.slice (some ad151) t147.length co17) : Value).ownBlock) u147001 x147001_1) ∧ Aside0 (wc.heap[gb145]? = some (.cells #[.string x146000_1, (.slice none 0 0), .int .i64 x146002_1, .string x146003_1] 60 (0, 0))) ∧ Aside0 (wc.heap[gb146]? = some (.cells #[.string x147000_1, u147001, .int .i64 x147002_1, .string x147003_1] 60 (0, 0))) ∧ Aside0 (Below w.heap.size w wc))
          case first =>
           have H := HC26.out
           clear HC26
           by_cases c27 : x7_1 = (wrap64 ((t147.length : Int) - 1))
           ·
            rw [if_pos c27] at H
            have c27b0 : (x7_1 == (wrap64 ((t147.length : Int) - 1))) = true := beq_iff_eq.mpr c27
            have c27b1 : (x7_1 != (wrap64 ((t147.length : Int) - 1))) = false := bne_eq_false_iff_eq.mpr c27
            clear c27
            (first | rw [c27b0] | (simp only [i64_w, i32_w]; rw [c27b0]) | skip)
            have H' := zK H
            clear H
            go_wp2
            go_meet
            case rel => exact ⟨_, ((⟨#[110, 111, 116, 101]⟩ : ByteArray)), zq5, H', ⟨by have := HK1.out; have := HJ21.out; have := HJ23.out; first | omega | exact Nat.le_refl _⟩, ⟨by (with_reducible repeat (first | apply zR | apply zV | apply zW)); exact HO_5.out⟩, ⟨by (with_reducible repeat (first | apply zR | apply zV | apply zW)); exact HO_147001.out⟩, ⟨by (with_reducible repeat (first | refine zM ?_ _ | refine zP ?_ | refine zQ ?_ _)); exact BK145.out⟩, ⟨by (with_reducible repeat (first | refine zM ?_ _ | refine zP ?_ | refine zQ ?_ _)); exact BK146.out⟩, ⟨by repeat (first | (with_reducible first | exact HB.out | apply zA | apply zN | apply zD | refine below_set ?_ GE145.out | refine below_set ?_ GE146.out) | exact HB.out)⟩⟩
           rw [if_neg c27] at H
           have c27b0 : (x7_1 == (wrap64 ((t147.length : Int) - 1))) = false := beq_eq_false_iff_ne.mpr c27
           have c27b1 : (x7_1 != (wrap64 ((t147.length : Int) - 1))) = true := bne_iff_ne.mpr c27
           (first | rw [c27b0] | (simp only [i64_w, i32_w]; rw [c27b0]) | skip)
           have H' := zK H
           clear H
           go_wp2
           go_meet
           case rel => exact ⟨_, (x10_23), zq5, H', ⟨by have := HK1.out; have := HJ21.out; have := HJ23.out; first | omega | exact Nat.le_refl _⟩, ⟨by (with_reducible repeat (first | apply zR | apply zV | apply zW)); exact HO_5.out⟩, ⟨by (with_reducible repeat (first | apply zR | apply zV | apply zW)); exact HO_147001.out⟩, ⟨by (with_reducible repeat (first | refine zM ?_ _ | refine zP ?_ | refine zQ ?_ _)); exact BK145.out⟩, ⟨by (with_reducible repeat (first | refine zM ?_ _ | refine zP ?_ | refine zQ ?_ _)); exact BK146.out⟩, ⟨by repeat (first | (with_reducible first | exact HB.out | apply zA | apply zN | apply zD | refine below_set ?_ GE145.out | refine below_set ?_ GE146.out) | exact HB.out)⟩⟩
          case rest =>
           clear HC26
           try clear c1
           try clear p1
           try clear q1
           try clear hx1
           try clear c2
           try clear p2
           try clear c3
           try clear c3b0
           try clear c3b1
           try clear c6
           try clear p6
           try clear c8
           try clear c14
           try clear p15
           try clear q15
           try clear hx15
           try clear c18
           try clear c18b0
           try clear c19
           try clear c19b0
           try clear c20
           try clear c20b0
           try clear c23
           try clear c23b0
           try clear c23b1
           try clear c25
           try clear c25b0
           try clear c25b1
           try clear c27
           try clear c27b0
           try clear c27b1
           try clear hcz10_0
           try clear hcz10_1
           try clear hcz10_2
           try clear hcz10_3
           try clear hcz11_0
           try clear hcz11_1
           try clear hcz11_2
           try clear hcz11_3
           try clear hcz15_0
           try clear hcz15_1
           try clear hcz15_2
           try clear hcz15_3
           try clear hcz7_0
           try clear hcz7_1
           try clear hcz7_2
           try clear hcz7_3
           try clear hfz10_0
           try clear hfz10_1
           try clear hfz10_2
           try clear hfz10_3
           try clear hfz11_0
           try clear hfz11_1
           try clear hfz11_2
           try clear hfz11_3
           try clear hfz15_0
           try clear hfz15_1
           try clear hfz15_2
           try clear hfz15_3
           try clear hfz7_0
           try clear hfz7_1
           try clear hfz7_2
           try clear hfz7_3
           try clear hx151_0
           try clear p1
           try clear p15
           try clear p151
           try clear p2
           try clear p6
           try clear q1
           try clear q15
           try clear q151
           obtain ⟨kq, x10_25, rfl, HA, HJ25, HO_5, HO_147001, BK145, BK146, HB⟩ := hcut
           cases kq with
           | zero => exact absurd HA.out (by simp [spec_l6Uncommit.j3])
           | succ kj25 =>
            have H := HA.out
            clear HA
            simp only [spec_l6Uncommit.j3] at H
            replace H := Option.bind_eq_some_iff.mp H
            obtain ⟨⟨t154, t155⟩, A280, H⟩ := H
            replace H : (if t153 = true then (spec_l6Uncommit.j4 kj25 t147 (t147.length : Int) x7_1 x10_25 t154 (!t155) x147000_1 x147001_1 x147002_1 x147003_1) else (spec_l6Uncommit.j4 kj25 t147 (t147.length : Int) x7_1 x10_25 t154 true x147000_1 x147001_1 x147002_1 x147003_1)) = some (r1, r2, r3, r4, r5) := H
            have A28 := zK A280
            clear A280
            have HC29 := zK H
            clear H
            go_upto_region 18 with (first | ((with_reducible refine gate_callee (f := 89) rfl ?_); refine goesL_ (some 49) rfl rfl Tryz.func89 zq6 rfl #[.string t152, .string x10_25] rfl zq1 ?_; (with_reducible refine (spec_l6After.calls t152 x10_25 t154 t155 _ A28.out).mono ?_); rintro e w' ⟨rfl, ⟨nd, rfl⟩⟩; refine ⟨_, rfl, ?_⟩))
            (try simp only [Act.put, zS, zT, zU])
            go_cut [57] (fun v57 wc => ∃ (kq : Nat) (x57_28 : Bool), v57 = .bool x57_28 ∧ Aside0 (spec_l6Uncommit.j4 kq t147 (t147.length : Int) x7_1 x10_25 t154 x57_28 x147000_1 x147001_1 x147002_1 x147003_1 = some (r1, r2, r3, r4, r5)) ∧ Aside0 (kq ≤ kj25) ∧ Aside0 (Kd.R Kd.string 9 wc w.heap.size (fun k_ => some k_ ≠ (u147001 : Value).ownBlock) (.slice (some ad151) t147.length co17) t147) ∧ Aside0 (Kd.R Kd.string 9 wc w.heap.size (fun k_ => some k_ ≠ ((.slice (some ad151) t147.length co17) : Value).ownBlock) u147001 x147001_1) ∧ Aside0 (wc.heap[gb145]? = some (.cells #[.string x146000_1, (.slice none 0 0), .int .i64 x146002_1, .string x146003_1] 60 (0, 0))) ∧ Aside0 (wc.heap[gb146]? = some (.cells #[.string x147000_1, u147001, .int .i64 x147002_1, .string x147003_1] 60 (0, 0))) ∧ Aside0 (Below w.heap.size w wc))
            case first =>
             have H := HC29.out
             clear HC29
             by_cases c30 : t153 = true
             ·
              subst c30
              have H1 : (spec_l6Uncommit.j4 kj25 t147 (t147.length : Int) x7_1 x10_25 t154 (!t155) x147000_1 x147001_1 x147002_1 x147003_1) = some (r1, r2, r3, r4, r5) := by rw [if_pos rfl] at H; exact H
              clear H
              have H := H1
              clear H1
              have H' := zK H
              clear H
              go_wp2
              go_meet
              case rel => exact ⟨_, (!t155), zq5, H', ⟨by have := HK1.out; have := HJ21.out; have := HJ23.out; have := HJ25.out; first | omega | exact Nat.le_refl _⟩, ⟨by (with_reducible repeat (first | apply zR | apply zV | apply zW)); exact HO_5.out⟩, ⟨by (with_reducible repeat (first | apply zR | apply zV | apply zW)); exact HO_147001.out⟩, ⟨by (with_reducible repeat (first | refine zM ?_ _ | refine zP ?_ | refine zQ ?_ _)); exact BK145.out⟩, ⟨by (with_reducible repeat (first | refine zM ?_ _ | refine zP ?_ | refine zQ ?_ _)); exact BK146.out⟩, ⟨by repeat (first | (with_reducible first | exact HB.out | apply zA | apply zN | apply zD | refine below_set ?_ GE145.out | refine below_set ?_ GE146.out) | exact HB.out)⟩⟩
             replace c30 := Bool.eq_false_iff.mpr c30
             subst c30
             have H1 : (spec_l6Uncommit.j4 kj25 t147 (t147.length : Int) x7_1 x10_25 t154 true x147000_1 x147001_1 x147002_1 x147003_1) = some (r1, r2, r3, r4, r5) := by rw [if_neg (show ¬ (false = true) by decide)] at H; exact H
             clear H
             have H := H1
             clear H1
             have H' := zK H
             clear H
             go_wp2
             go_meet
             case rel => exact ⟨_, (true), zq5, H', ⟨by have := HK1.out; have := HJ21.out; have := HJ23.out; have := HJ25.out; first | omega | exact Nat.le_refl _⟩, ⟨by (with_reducible repeat (first | apply zR | apply zV | apply zW)); exact HO_5.out⟩, ⟨by (with_reducible repeat (first | apply zR | apply zV | apply zW)); exact HO_147001.out⟩, ⟨by (with_reducible repeat (first | refine zM ?_ _ | refine zP ?_ | refine zQ ?_ _)); exact BK145.out⟩, ⟨by (with_reducible repeat (first | refine zM ?_ _ | refine zP ?_ | refine zQ ?_ _)); exact BK146.out⟩, ⟨by repeat (first | (with_reducible first | exact HB.out | apply zA | apply zN | apply zD | refine below_set ?_ GE145.out | refine below_set ?_ GE146.out) | exact HB.out)⟩⟩
            case rest =>
             clear HC29
             try clear c1
             try clear p1
             try clear q1
             try clear hx1
             try clear c2
             try clear p2
             try clear c3
             try clear c3b0
             try clear c3b1
             try clear c6
             try clear p6
             try clear c8
             try clear c14
             try clear p15
             try clear q15
             try clear hx15
             try clear c18
             try clear c18b0
             try clear c19
             try clear c19b0
             try clear c20
             try clear c20b0
             try clear c23
             try clear c23b0
             try clear c23b1
             try clear c25
             try clear c25b0
             try clear c25b1
             try clear c27
             try clear c27b0
             try clear c27b1
             try clear c30
             try clear hcz10_0
             try clear hcz10_1
             try clear hcz10_2
             try clear hcz10_3
             try clear hcz11_0
             try clear hcz11_1
             try clear hcz11_2
             try clear hcz11_3
             try clear hcz15_0
             try clear hcz15_1
             try clear hcz15_2
             try clear hcz15_3
             try clear hcz7_0
             try clear hcz7_1
             try clear hcz7_2
             try clear hcz7_3
             try clear hfz10_0
             try clear hfz10_1
             try clear hfz10_2
             try clear hfz10_3
             try clear hfz11_0
             try clear hfz11_1
             try clear hfz11_2
             try clear hfz11_3
             try clear hfz15_0
             try clear hfz15_1
             try clear hfz15_2
             try clear hfz15_3
             try clear hfz7_0
             try clear hfz7_1
             try clear hfz7_2
             try clear hfz7_3
             try clear hx151_0
             try clear p1
             try clear p15
             try clear p151
             try clear p2
             try clear p6
             try clear q1
             try clear q15
             try clear q151
             obtain ⟨kq, x57_28, rfl, HA, HJ28, HO_5, HO_147001, BK145, BK146, HB⟩ := hcut
             cases kq with
             | zero => exact absurd HA.out (by simp [spec_l6Uncommit.j4])
             | succ kj28 =>
              have H := HA.out
              clear HA
              simp only [spec_l6Uncommit.j4] at H
              by_cases c31 : x57_28 = true
              ·
               subst c31
               have H1 : (some (x147000_1, x147001_1, x147002_1, x147003_1, false)) = some (r1, r2, r3, r4, r5) := by rw [if_pos rfl] at H; exact H
               clear H
               have H := H1
               clear H1
               simp only [Option.some.injEq, Prod.mk.injEq] at H
               obtain ⟨rfl, rfl, rfl, rfl, rfl⟩ := H
               have hnb32 := NB146_145.out
               have hnc32 := NB145_146.out
               have hcz33_0 : wc.cell? ⟨gb146, 0, none⟩ = some (.string x147000_1) := (blk_cell BK146.out 0).trans rfl
               have hcz33_1 : wc.cell? ⟨gb146, 1, none⟩ = some (u147001) := (blk_cell BK146.out 1).trans rfl
               have hcz33_2 : wc.cell? ⟨gb146, 2, none⟩ = some (.int .i64 x147002_1) := (blk_cell BK146.out 2).trans rfl
               have hcz33_3 : wc.cell? ⟨gb146, 3, none⟩ = some (.string x147003_1) := (blk_cell BK146.out 3).trans rfl
               have hfz33_0 := blk_frozen BK146.out 0
               have hfz33_1 := blk_frozen BK146.out 1
               have hfz33_2 := blk_frozen BK146.out 2
               have hfz33_3 := blk_frozen BK146.out 3
               have hcz34_0 : wc.cell? ⟨gb145, 0, none⟩ = some (.string x146000_1) := (blk_cell BK145.out 0).trans rfl
               have hcz34_1 : wc.cell? ⟨gb145, 1, none⟩ = some (.slice none 0 0) := (blk_cell BK145.out 1).trans rfl
               have hcz34_2 : wc.cell? ⟨gb145, 2, none⟩ = some (.int .i64 x146002_1) := (blk_cell BK145.out 2).trans rfl
               have hcz34_3 : wc.cell? ⟨gb145, 3, none⟩ = some (.string x146003_1) := (blk_cell BK145.out 3).trans rfl
               have hfz34_0 := blk_frozen BK145.out 0
               have hfz34_1 := blk_frozen BK145.out 1
               have hfz34_2 := blk_frozen BK145.out 2
               have hfz34_3 := blk_frozen BK145.out 3
               obtain ⟨Ao35, co35, eo35⟩ := Kd.R_slice HO_147001.out
               subst eo35
               go_wp2
               refine bodyPost_ret (results_ct rfl _ _ gb145 60 #[.string x147000_1, .slice Ao35 x147001_1.length co35, .int .i64 x147002_1, .string x147003_1] (0, 0) _ rfl (by (with_reducible repeat (first | refine zM ?_ _ | refine zP ?_ | refine zQ ?_ _)); refine blk_put (cs := #[.string x147000_1, .slice Ao35 x147001_1.length co35, .int .i64 x147002_1, .string x146003_1]) ?_ 3 _ rfl; (with_reducible repeat (first | refine zM ?_ _ | refine zP ?_ | refine zQ ?_ _)); refine blk_put (cs := #[.string x147000_1, .slice Ao35 x147001_1.length co35, .int .i64 x146002_1, .string x146003_1]) ?_ 2 _ rfl; (with_reducible repeat (first | refine zM ?_ _ | refine zP ?_ | refine zQ ?_ _)); refine blk_put (cs := #[.string x147000_1, .slice none 0 0, .int .i64 x146002_1, .string x146003_1]) ?_ 1 _ rfl; (with_reducible repeat (first | refine zM ?_ _ | refine zP ?_ | refine zQ ?_ _)); refine blk_put (cs := #[.string x146000_1, .slice none 0 0, .int .i64 x146002_1, .string x146003_1]) ?_ 0 _ rfl; (with_reducible repeat (first | refine zM ?_ _ | refine zP ?_ | refine zQ ?_ _)); exact BK145.out) Tryz.underlying60 rfl zq6) rfl ?_
               exact ⟨_, zq3, (by (with_reducible repeat (first | apply zR | apply zV | apply zW)); exact Kd.R_mono (Kd.R_far (p := ⟨gb145, 3, none⟩) (Kd.R_far (p := ⟨gb145, 2, none⟩) (Kd.R_far (p := ⟨gb145, 1, none⟩) (Kd.R_far (p := ⟨gb145, 0, none⟩) (Kd.R_types HO_147001.out BK145.out zq9) (fun _ hk => hk.2) (.string x147000_1)) (fun _ hk => hk.2) (.slice Ao35 x147001_1.length co35)) (fun _ hk => hk.2) (.int .i64 x147002_1)) (fun _ hk => hk.2) (.string x147003_1)) (fun _ hk => trivial)), (by repeat (first | (with_reducible first | exact HB.out | apply zA | apply zN | apply zD | refine below_set ?_ GE145.out | refine below_set ?_ GE146.out) | exact HB.out))⟩
              replace c31 := Bool.eq_false_iff.mpr c31
              subst c31
              have H1 : (if x10_25.toList = ([116, 114, 101, 101] : List UInt8) then (spec_l6Uncommit.l0 kj28 t147 (t147.length : Int) (wrap64 (x7_1 + 1)) t154 x147001_1 x147002_1 x147003_1) else (if x10_25.toList = ([112, 97, 114, 101, 110, 116] : List UInt8) then (if x147001_1.length < 8796093022208 then (spec_l6Uncommit.l0 kj28 t147 (t147.length : Int) (wrap64 (x7_1 + 1)) x147000_1 (x147001_1 ++ [t154]) x147002_1 x147003_1) else (none)) else (if x10_25.toList = ([116, 105, 109, 101] : List UInt8) then ((spec_l6Time.f kj28 t154).bind fun bt159 => (if bt159.2 = true then (spec_l6Uncommit.l0 kj28 t147 (t147.length : Int) (wrap64 (x7_1 + 1)) x147000_1 x147001_1 bt159.1 x147003_1) else (some (x147000_1, x147001_1, x147002_1, x147003_1, false)))) else (spec_l6Uncommit.l0 kj28 t147 (t147.length : Int) (wrap64 (x7_1 + 1)) x147000_1 x147001_1 x147002_1 t154)))) = some (r1, r2, r3, r4, r5) := by rw [if_neg (show ¬ (false = true) by decide)] at H; exact H
              clear H
              have H := H1
              clear H1
              by_cases c36 : x10_25.toList = ([116, 114, 101, 101] : List UInt8)
              ·
               rw [if_pos c36] at H
               have c36b0 : (x10_25.toList == ([116, 114, 101, 101] : List UInt8)) = true := beq_iff_eq.mpr c36
               have c36b1 : (x10_25.toList != ([116, 114, 101, 101] : List UInt8)) = false := bne_eq_false_iff_eq.mpr c36
               clear c36
               have H' := zK H
               clear H
               have hnb37 := NB146_145.out
               have hnc37 := NB145_146.out
               have hcz38_0 : wc.cell? ⟨gb146, 0, none⟩ = some (.string x147000_1) := (blk_cell BK146.out 0).trans rfl
               have hcz38_1 : wc.cell? ⟨gb146, 1, none⟩ = some (u147001) := (blk_cell BK146.out 1).trans rfl
               have hcz38_2 : wc.cell? ⟨gb146, 2, none⟩ = some (.int .i64 x147002_1) := (blk_cell BK146.out 2).trans rfl
               have hcz38_3 : wc.cell? ⟨gb146, 3, none⟩ = some (.string x147003_1) := (blk_cell BK146.out 3).trans rfl
               have hfz38_0 := blk_frozen BK146.out 0
               have hfz38_1 := blk_frozen BK146.out 1
               have hfz38_2 := blk_frozen BK146.out 2
               have hfz38_3 := blk_frozen BK146.out 3
               go_wp2
               go_roundg kj28
               case measure => have := HK1.out; have := HJ21.out; have := HJ23.out; have := HJ25.out; have := HJ28.out; omega
               case rel => exact ⟨(wrap64 (x7_1 + 1)), (x146000_1), (x146002_1), (x146003_1), (t154), (x147001_1), (x147002_1), (x147003_1), (u147001), zq5, H', ⟨by have := HK1.out; have := HJ21.out; have := HJ23.out; have := HJ25.out; have := HJ28.out; omega⟩, ⟨by (with_reducible repeat (first | apply zR | apply zV | apply zW)); exact Kd.R_mono (Kd.R_far (p := ⟨gb146, 0, none⟩) (Kd.R_types HO_5.out BK146.out zq9) (fun _ hk => hk.2) (.string t154)) (fun _ hk => hk.1)⟩, ⟨by (with_reducible repeat (first | apply zR | apply zV | apply zW)); exact Kd.R_mono (Kd.R_far (p := ⟨gb146, 0, none⟩) (Kd.R_types HO_147001.out BK146.out zq9) (fun _ hk => hk.2) (.string t154)) (fun _ hk => hk.1)⟩, ⟨by (with_reducible repeat (first | refine zM ?_ _ | refine zP ?_ | refine zQ ?_ _)); refine blk_far ?_ NB145_146.out _; (with_reducible repeat (first | refine zM ?_ _ | refine zP ?_ | refine zQ ?_ _)); exact BK145.out⟩, ⟨by (with_reducible repeat (first | refine zM ?_ _ | refine zP ?_ | refine zQ ?_ _)); refine blk_put (cs := #[.string x147000_1, u147001, .int .i64 x147002_1, .string x147003_1]) ?_ 0 _ rfl; (with_reducible repeat (first | refine zM ?_ _ | refine zP ?_ | refine zQ ?_ _)); exact BK146.out⟩, ⟨by repeat (first | (with_reducible first | exact HB.out | apply zA | apply zN | apply zD | refine below_set ?_ GE145.out | refine below_set ?_ GE146.out) | exact HB.out)⟩⟩
              rw [if_neg c36] at H
              have c36b0 : (x10_25.toList == ([116, 114, 101, 101] : List UInt8)) = false := beq_eq_false_iff_ne.mpr c36
              have c36b1 : (x10_25.toList != ([116, 114, 101, 101] : List UInt8)) = true := bne_iff_ne.mpr c36
              by_cases c39 : x10_25.toList = ([112, 97, 114, 101, 110, 116] : List UInt8)
              ·
               rw [if_pos c39] at H
               have c39b0 : (x10_25.toList == ([112, 97, 114, 101, 110, 116] : List UInt8)) = true := beq_iff_eq.mpr c39
               have c39b1 : (x10_25.toList != ([112, 97, 114, 101, 110, 116] : List UInt8)) = false := bne_eq_false_iff_eq.mpr c39
               clear c39
               by_cases c40 : x147001_1.length < 8796093022208
               ·
                rw [if_pos c40] at H
                have LMc40 := zK c40
                clear c40
                obtain ⟨y156, hy156⟩ : ∃ y_ : List ByteArray, y_ = (x147001_1 ++ [t154]) := ⟨_, rfl⟩
                replace H : (spec_l6Uncommit.l0 kj28 t147 (t147.length : Int) (wrap64 (x7_1 + 1)) x147000_1 y156 x147002_1 x147003_1) = some (r1, r2, r3, r4, r5) := by first | (rw [hy156]; with_reducible exact H) | (have H2_ := (Option.bind_some _ _).symm.trans H; rw [hy156]; with_reducible exact H2_) | (have H2_ := (Option.bind_some _ _).symm.trans H; with_reducible exact H2_) | with_reducible exact H | (rw [hy156]; exact H) | exact H
                have Ny156 := zK hy156
                clear hy156
                have H' := zK H
                clear H
                have hnb41 := NB146_145.out
                have hnc41 := NB145_146.out
                have hcz42_0 : wc.cell? ⟨gb146, 0, none⟩ = some (.string x147000_1) := (blk_cell BK146.out 0).trans rfl
                have hcz42_1 : wc.cell? ⟨gb146, 1, none⟩ = some (u147001) := (blk_cell BK146.out 1).trans rfl
                have hcz42_2 : wc.cell? ⟨gb146, 2, none⟩ = some (.int .i64 x147002_1) := (blk_cell BK146.out 2).trans rfl
                have hcz42_3 : wc.cell? ⟨gb146, 3, none⟩ = some (.string x147003_1) := (blk_cell BK146.out 3).trans rfl
                have hfz42_0 := blk_frozen BK146.out 0
                have hfz42_1 := blk_frozen BK146.out 1
                have hfz42_2 := blk_frozen BK146.out 2
                have hfz42_3 := blk_frozen BK146.out 3
                go_wp2_with (first | ((with_reducible refine gate_builtin (b := .append) (xs := #[.tmp 69, .tmp 71]) rfl ?_); at_builtin; refine Kd.R_append Kd.string (w0 := w) w.heap.size rfl (.tmp 69) (.tmp 71) 29 9 (.string ⟨#[]⟩) 16 rfl Tryz.underlying29 info9 rfl zq9 zq7 u147001 x147001_1 t154 [.string t154] (fun k_ => some k_ ≠ (.slice (some ad151) t147.length co17 : Value).ownBlock) (fun _ => False) rfl rfl ?aP (fun _ hk => hk.elim) ?aF ?aO ?aB ?aS ?aL ?_; (case aP => exact rfl); (case aB => exact (by repeat (first | (with_reducible first | exact HB.out | apply zA | apply zN | apply zD | refine below_set ?_ GE145.out | refine below_set ?_ GE146.out) | exact HB.out))); (case aF => exact (fun k_ hk => Kd.fresh' (Kd.R_lt zq26) k_ hk)); (case aO => exact zq23); (case aS => exact (below_size (by repeat (first | (with_reducible first | exact HB.out | apply zA | apply zN | apply zD | refine below_set ?_ GE145.out | refine below_set ?_ GE146.out) | exact HB.out)))); (case aL => have := LMc40.out; omega); intro v157 w43 ho hb hg hat; rw [← Ny156.out] at ho; have n0_ := zK (Kd.R_after (ok := (fun _ => True)) (by (with_reducible repeat (first | apply zR | apply zV | apply zW)); exact Kd.R_mono HO_5.out (fun _ hk => ⟨trivial, hk⟩)) hg hat); have n1_ := zK (blk_grown (g := gb145) (o := .cells #[.string x146000_1, .slice none 0 0, .int .i64 x146002_1, .string x146003_1] 60 (0, 0)) (by (with_reducible repeat (first | refine zM ?_ _ | refine zP ?_ | refine zQ ?_ _)); exact BK145.out) hg (Kd.R_ne HO_147001.out BK145.out zq9)); have n2_ := zK (blk_grown (g := gb146) (o := .cells #[.string x147000_1, u147001, .int .i64 x147002_1, .string x147003_1] 60 (0, 0)) (by (with_reducible repeat (first | refine zM ?_ _ | refine zP ?_ | refine zQ ?_ _)); exact BK146.out) hg (Kd.R_ne HO_147001.out BK146.out zq9)); have n3_ := zK (hb); have n4_ := zK (ho); clear HO_5; clear BK145; clear BK146; clear HB; clear HO_147001; have HO_5 := n0_; have BK145 := n1_; have BK146 := n2_; have HB := n3_; have HO158 := n4_; clear n0_ n1_ n2_ n3_ n4_; clear ho hb hg hat; obtain ⟨Ao44, co44, eo44⟩ := Kd.R_slice HO158.out; subst eo44; have hcz45_0 : w43.cell? ⟨gb146, 0, none⟩ = some (.string x147000_1) := (blk_cell BK146.out 0).trans rfl; have hcz45_1 : w43.cell? ⟨gb146, 1, none⟩ = some (u147001) := (blk_cell BK146.out 1).trans rfl; have hcz45_2 : w43.cell? ⟨gb146, 2, none⟩ = some (.int .i64 x147002_1) := (blk_cell BK146.out 2).trans rfl; have hcz45_3 : w43.cell? ⟨gb146, 3, none⟩ = some (.string x147003_1) := (blk_cell BK146.out 3).trans rfl; have hfz45_0 := blk_frozen BK146.out 0; have hfz45_1 := blk_frozen BK146.out 1; have hfz45_2 := blk_frozen BK146.out 2; have hfz45_3 := blk_frozen BK146.out 3))
                go_roundg kj28
                case measure => have := HK1.out; have := HJ21.out; have := HJ23.out; have := HJ25.out; have := HJ28.out; omega
                case rel => exact ⟨(wrap64 (x7_1 + 1)), (x146000_1), (x146002_1), (x146003_1), (x147000_1), (y156), (x147002_1), (x147003_1), (.slice Ao44 y156.length co44), zq5, H', ⟨by have := HK1.out; have := HJ21.out; have := HJ23.out; have := HJ25.out; have := HJ28.out; omega⟩, ⟨by (with_reducible repeat (first | apply zR | apply zV | apply zW)); exact Kd.R_mono (Kd.R_far (p := ⟨gb146, 1, none⟩) (Kd.R_types HO_5.out BK146.out zq9) (fun _ hk => hk.2) (.slice Ao44 y156.length co44)) (fun _ hk => hk.1.2)⟩, ⟨by (with_reducible repeat (first | apply zR | apply zV | apply zW)); exact Kd.R_mono (Kd.R_far (p := ⟨gb146, 1, none⟩) (Kd.R_types HO158.out BK146.out zq9) (fun _ hk => hk.2) (.slice Ao44 y156.length co44)) (fun _ hk => hk.1)⟩, ⟨by (with_reducible repeat (first | refine zM ?_ _ | refine zP ?_ | refine zQ ?_ _)); refine blk_far ?_ NB145_146.out _; (with_reducible repeat (first | refine zM ?_ _ | refine zP ?_ | refine zQ ?_ _)); exact BK145.out⟩, ⟨by (with_reducible repeat (first | refine zM ?_ _ | refine zP ?_ | refine zQ ?_ _)); refine blk_put (cs := #[.string x147000_1, u147001, .int .i64 x147002_1, .string x147003_1]) ?_ 1 _ rfl; (with_reducible repeat (first | refine zM ?_ _ | refine zP ?_ | refine zQ ?_ _)); exact BK146.out⟩, ⟨by repeat (first | (with_reducible first | exact HB.out | apply zA | apply zN | apply zD | refine below_set ?_ GE145.out | refine below_set ?_ GE146.out) | exact HB.out)⟩⟩
               rw [if_neg c40] at H
               exact absurd H zq12
              rw [if_neg c39] at H
              have c39b0 : (x10_25.toList == ([112, 97, 114, 101, 110, 116] : List UInt8)) = false := beq_eq_false_iff_ne.mpr c39
              have c39b1 : (x10_25.toList != ([112, 97, 114, 101, 110, 116] : List UInt8)) = true := bne_iff_ne.mpr c39
              by_cases c46 : x10_25.toList = ([116, 105, 109, 101] : List UInt8)
              ·
               rw [if_pos c46] at H
               have c46b0 : (x10_25.toList == ([116, 105, 109, 101] : List UInt8)) = true := beq_iff_eq.mpr c46
               have c46b1 : (x10_25.toList != ([116, 105, 109, 101] : List UInt8)) = false := bne_eq_false_iff_eq.mpr c46
               clear c46
               replace H := Option.bind_eq_some_iff.mp H
               obtain ⟨⟨t159, t160⟩, A470, H⟩ := H
               replace H : (if t160 = true then (spec_l6Uncommit.l0 kj28 t147 (t147.length : Int) (wrap64 (x7_1 + 1)) x147000_1 x147001_1 t159 x147003_1) else (some (x147000_1, x147001_1, x147002_1, x147003_1, false))) = some (r1, r2, r3, r4, r5) := H
               have A47 := zK A470
               clear A470
               by_cases c48 : t160 = true
               ·
                subst c48
                have H1 : (spec_l6Uncommit.l0 kj28 t147 (t147.length : Int) (wrap64 (x7_1 + 1)) x147000_1 x147001_1 t159 x147003_1) = some (r1, r2, r3, r4, r5) := by rw [if_pos rfl] at H; exact H
                clear H
                have H := H1
                clear H1
                have H' := zK H
                clear H
                go_wp2_with (first | ((with_reducible refine gate_callee (f := 90) rfl ?_); refine goesL_ (some 78) rfl rfl Tryz.func90 zq6 rfl #[.string t154] rfl zq1 ?_; (with_reducible refine (spec_l6Time.calls kj28 t154 t159 true _ A47.out).mono ?_); rintro e w49 ⟨rfl, hb⟩; refine ⟨_, rfl, ?_⟩; have n0_ := zK (Kd.R_below zq26 hb); have n1_ := zK (Kd.R_below zq23 hb); have n2_ := zK (blk_below (g := gb145) (o := .cells #[.string x146000_1, .slice none 0 0, .int .i64 x146002_1, .string x146003_1] 60 (0, 0)) (by (with_reducible repeat (first | refine zM ?_ _ | refine zP ?_ | refine zQ ?_ _)); exact BK145.out) hb); have n3_ := zK (blk_below (g := gb146) (o := .cells #[.string x147000_1, u147001, .int .i64 x147002_1, .string x147003_1] 60 (0, 0)) (by (with_reducible repeat (first | refine zM ?_ _ | refine zP ?_ | refine zQ ?_ _)); exact BK146.out) hb); have n4_ := zK (below_step (by repeat (first | (with_reducible first | exact HB.out | apply zA | apply zN | apply zD | refine below_set ?_ GE145.out | refine below_set ?_ GE146.out) | exact HB.out)) hb); clear HO_5; clear HO_147001; clear BK145; clear BK146; clear HB; have HO_5 := n0_; have HO_147001 := n1_; have BK145 := n2_; have BK146 := n3_; have HB := n4_; clear n0_ n1_ n2_ n3_ n4_; (try clear hb); (try clear hb2); (try clear hk); (try clear hi); have hnb50 := NB146_145.out; have hnc50 := NB145_146.out; have hcz51_0 : w49.cell? ⟨gb146, 0, none⟩ = some (.string x147000_1) := (blk_cell BK146.out 0).trans rfl; have hcz51_1 : w49.cell? ⟨gb146, 1, none⟩ = some (u147001) := (blk_cell BK146.out 1).trans rfl; have hcz51_2 : w49.cell? ⟨gb146, 2, none⟩ = some (.int .i64 x147002_1) := (blk_cell BK146.out 2).trans rfl; have hcz51_3 : w49.cell? ⟨gb146, 3, none⟩ = some (.string x147003_1) := (blk_cell BK146.out 3).trans rfl; have hfz51_0 := blk_frozen BK146.out 0; have hfz51_1 := blk_frozen BK146.out 1; have hfz51_2 := blk_frozen BK146.out 2; have hfz51_3 := blk_frozen BK146.out 3))
                go_roundg kj28
                case measure => have := HK1.out; have := HJ21.out; have := HJ23.out; have := HJ25.out; have := HJ28.out; omega
                case rel => exact ⟨(wrap64 (x7_1 + 1)), (x146000_1), (x146002_1), (x146003_1), (x147000_1), (x147001_1), (t159), (x147003_1), (u147001), zq5, H', ⟨by have := HK1.out; have := HJ21.out; have := HJ23.out; have := HJ25.out; have := HJ28.out; omega⟩, ⟨by (with_reducible repeat (first | apply zR | apply zV | apply zW)); exact Kd.R_mono (Kd.R_far (p := ⟨gb146, 2, none⟩) (Kd.R_types HO_5.out BK146.out zq9) (fun _ hk => hk.2) (.int .i64 t159)) (fun _ hk => hk.1)⟩, ⟨by (with_reducible repeat (first | apply zR | apply zV | apply zW)); exact Kd.R_mono (Kd.R_far (p := ⟨gb146, 2, none⟩) (Kd.R_types HO_147001.out BK146.out zq9) (fun _ hk => hk.2) (.int .i64 t159)) (fun _ hk => hk.1)⟩, ⟨by (with_reducible repeat (first | refine zM ?_ _ | refine zP ?_ | refine zQ ?_ _)); refine blk_far ?_ NB145_146.out _; (with_reducible repeat (first | refine zM ?_ _ | refine zP ?_ | refine zQ ?_ _)); exact BK145.out⟩, ⟨by (with_reducible repeat (first | refine zM ?_ _ | refine zP ?_ | refine zQ ?_ _)); refine blk_put (cs := #[.string x147000_1, u147001, .int .i64 x147002_1, .string x147003_1]) ?_ 2 _ rfl; (with_reducible repeat (first | refine zM ?_ _ | refine zP ?_ | refine zQ ?_ _)); exact BK146.out⟩, ⟨by repeat (first | (with_reducible first | exact HB.out | apply zA | apply zN | apply zD | refine below_set ?_ GE145.out | refine below_set ?_ GE146.out) | exact HB.out)⟩⟩
               replace c48 := Bool.eq_false_iff.mpr c48
               subst c48
               have H1 : (some (x147000_1, x147001_1, x147002_1, x147003_1, false)) = some (r1, r2, r3, r4, r5) := by rw [if_neg (show ¬ (false = true) by decide)] at H; exact H
               clear H
               have H := H1
               clear H1
               simp only [Option.some.injEq, Prod.mk.injEq] at H
               obtain ⟨rfl, rfl, rfl, rfl, rfl⟩ := H
               go_wp2_with (first | ((with_reducible refine gate_callee (f := 90) rfl ?_); refine goesL_ (some 78) rfl rfl Tryz.func90 zq6 rfl #[.string t154] rfl zq1 ?_; (with_reducible refine (spec_l6Time.calls kj28 t154 t159 false _ A47.out).mono ?_); rintro e w52 ⟨rfl, hb⟩; refine ⟨_, rfl, ?_⟩; have n0_ := zK (Kd.R_below zq26 hb); have n1_ := zK (Kd.R_below zq23 hb); have n2_ := zK (blk_below (g := gb145) (o := .cells #[.string x146000_1, .slice none 0 0, .int .i64 x146002_1, .string x146003_1] 60 (0, 0)) (by (with_reducible repeat (first | refine zM ?_ _ | refine zP ?_ | refine zQ ?_ _)); exact BK145.out) hb); have n3_ := zK (blk_below (g := gb146) (o := .cells #[.string x147000_1, u147001, .int .i64 x147002_1, .string x147003_1] 60 (0, 0)) (by (with_reducible repeat (first | refine zM ?_ _ | refine zP ?_ | refine zQ ?_ _)); exact BK146.out) hb); have n4_ := zK (below_step (by repeat (first | (with_reducible first | exact HB.out | apply zA | apply zN | apply zD | refine below_set ?_ GE145.out | refine below_set ?_ GE146.out) | exact HB.out)) hb); clear HO_5; clear HO_147001; clear BK145; clear BK146; clear HB; have HO_5 := n0_; have HO_147001 := n1_; have BK145 := n2_; have BK146 := n3_; have HB := n4_; clear n0_ n1_ n2_ n3_ n4_; (try clear hb); (try clear hb2); (try clear hk); (try clear hi); have hnb53 := NB146_145.out; have hnc53 := NB145_146.out; have hcz54_0 : w52.cell? ⟨gb146, 0, none⟩ = some (.string x147000_1) := (blk_cell BK146.out 0).trans rfl; have hcz54_1 : w52.cell? ⟨gb146, 1, none⟩ = some (u147001) := (blk_cell BK146.out 1).trans rfl; have hcz54_2 : w52.cell? ⟨gb146, 2, none⟩ = some (.int .i64 x147002_1) := (blk_cell BK146.out 2).trans rfl; have hcz54_3 : w52.cell? ⟨gb146, 3, none⟩ = some (.string x147003_1) := (blk_cell BK146.out 3).trans rfl; have hfz54_0 := blk_frozen BK146.out 0; have hfz54_1 := blk_frozen BK146.out 1; have hfz54_2 := blk_frozen BK146.out 2; have hfz54_3 := blk_frozen BK146.out 3; have hcz55_0 : w52.cell? ⟨gb145, 0, none⟩ = some (.string x146000_1) := (blk_cell BK145.out 0).trans rfl; have hcz55_1 : w52.cell? ⟨gb145, 1, none⟩ = some (.slice none 0 0) := (blk_cell BK145.out 1).trans rfl; have hcz55_2 : w52.cell? ⟨gb145, 2, none⟩ = some (.int .i64 x146002_1) := (blk_cell BK145.out 2).trans rfl; have hcz55_3 : w52.cell? ⟨gb145, 3, none⟩ = some (.string x146003_1) := (blk_cell BK145.out 3).trans rfl; have hfz55_0 := blk_frozen BK145.out 0; have hfz55_1 := blk_frozen BK145.out 1; have hfz55_2 := blk_frozen BK145.out 2; have hfz55_3 := blk_frozen BK145.out 3; obtain ⟨Ao56, co56, eo56⟩ := Kd.R_slice HO_147001.out; subst eo56))
               refine bodyPost_ret (results_ct rfl _ _ gb145 60 #[.string x147000_1, .slice Ao56 x147001_1.length co56, .int .i64 x147002_1, .string x147003_1] (0, 0) _ rfl (by (with_reducible repeat (first | refine zM ?_ _ | refine zP ?_ | refine zQ ?_ _)); refine blk_put (cs := #[.string x147000_1, .slice Ao56 x147001_1.length co56, .int .i64 x147002_1, .string x146003_1]) ?_ 3 _ rfl; (with_reducible repeat (first | refine zM ?_ _ | refine zP ?_ | refine zQ ?_ _)); refine blk_put (cs := #[.string x147000_1, .slice Ao56 x147001_1.length co56, .int .i64 x146002_1, .string x146003_1]) ?_ 2 _ rfl; (with_reducible repeat (first | refine zM ?_ _ | refine zP ?_ | refine zQ ?_ _)); refine blk_put (cs := #[.string x147000_1, .slice none 0 0, .int .i64 x146002_1, .string x146003_1]) ?_ 1 _ rfl; (with_reducible repeat (first | refine zM ?_ _ | refine zP ?_ | refine zQ ?_ _)); refine blk_put (cs := #[.string x146000_1, .slice none 0 0, .int .i64 x146002_1, .string x146003_1]) ?_ 0 _ rfl; (with_reducible repeat (first | refine zM ?_ _ | refine zP ?_ | refine zQ ?_ _)); exact BK145.out) Tryz.underlying60 rfl zq6) rfl ?_
               exact ⟨_, zq3, (by (with_reducible repeat (first | apply zR | apply zV | apply zW)); exact Kd.R_mono (Kd.R_far (p := ⟨gb145, 3, none⟩) (Kd.R_far (p := ⟨gb145, 2, none⟩) (Kd.R_far (p := ⟨gb145, 1, none⟩) (Kd.R_far (p := ⟨gb145, 0, none⟩) (Kd.R_types HO_147001.out BK145.out zq9) (fun _ hk => hk.2) (.string x147000_1)) (fun _ hk => hk.2) (.slice Ao56 x147001_1.length co56)) (fun _ hk => hk.2) (.int .i64 x147002_1)) (fun _ hk => hk.2) (.string x147003_1)) (fun _ hk => trivial)), (by repeat (first | (with_reducible first | exact HB.out | apply zA | apply zN | apply zD | refine below_set ?_ GE145.out | refine below_set ?_ GE146.out) | exact HB.out))⟩
              rw [if_neg c46] at H
              have c46b0 : (x10_25.toList == ([116, 105, 109, 101] : List UInt8)) = false := beq_eq_false_iff_ne.mpr c46
              have c46b1 : (x10_25.toList != ([116, 105, 109, 101] : List UInt8)) = true := bne_iff_ne.mpr c46
              have H' := zK H
              clear H
              have hnb57 := NB146_145.out
              have hnc57 := NB145_146.out
              have hcz58_0 : wc.cell? ⟨gb146, 0, none⟩ = some (.string x147000_1) := (blk_cell BK146.out 0).trans rfl
              have hcz58_1 : wc.cell? ⟨gb146, 1, none⟩ = some (u147001) := (blk_cell BK146.out 1).trans rfl
              have hcz58_2 : wc.cell? ⟨gb146, 2, none⟩ = some (.int .i64 x147002_1) := (blk_cell BK146.out 2).trans rfl
              have hcz58_3 : wc.cell? ⟨gb146, 3, none⟩ = some (.string x147003_1) := (blk_cell BK146.out 3).trans rfl
              have hfz58_0 := blk_frozen BK146.out 0
              have hfz58_1 := blk_frozen BK146.out 1
              have hfz58_2 := blk_frozen BK146.out 2
              have hfz58_3 := blk_frozen BK146.out 3
              go_wp2
              go_roundg kj28
              case measure => have := HK1.out; have := HJ21.out; have := HJ23.out; have := HJ25.out; have := HJ28.out; omega
              case rel => exact ⟨(wrap64 (x7_1 + 1)), (x146000_1), (x146002_1), (x146003_1), (x147000_1), (x147001_1), (x147002_1), (t154), (u147001), zq5, H', ⟨by have := HK1.out; have := HJ21.out; have := HJ23.out; have := HJ25.out; have := HJ28.out; omega⟩, ⟨by (with_reducible repeat (first | apply zR | apply zV | apply zW)); exact Kd.R_mono (Kd.R_far (p := ⟨gb146, 3, none⟩) (Kd.R_types HO_5.out BK146.out zq9) (fun _ hk => hk.2) (.string t154)) (fun _ hk => hk.1)⟩, ⟨by (with_reducible repeat (first | apply zR | apply zV | apply zW)); exact Kd.R_mono (Kd.R_far (p := ⟨gb146, 3, none⟩) (Kd.R_types HO_147001.out BK146.out zq9) (fun _ hk => hk.2) (.string t154)) (fun _ hk => hk.1)⟩, ⟨by (with_reducible repeat (first | refine zM ?_ _ | refine zP ?_ | refine zQ ?_ _)); refine blk_far ?_ NB145_146.out _; (with_reducible repeat (first | refine zM ?_ _ | refine zP ?_ | refine zQ ?_ _)); exact BK145.out⟩, ⟨by (with_reducible repeat (first | refine zM ?_ _ | refine zP ?_ | refine zQ ?_ _)); refine blk_put (cs := #[.string x147000_1, u147001, .int .i64 x147002_1, .string x147003_1]) ?_ 3 _ rfl; (with_reducible repeat (first | refine zM ?_ _ | refine zP ?_ | refine zQ ?_ _)); exact BK146.out⟩, ⟨by repeat (first | (with_reducible first | exact HB.out | apply zA | apply zN | apply zD | refine below_set ?_ GE145.out | refine below_set ?_ GE146.out) | exact HB.out)⟩⟩
     rw [if_neg c20] at H
     exact absurd H zq12
    rw [if_neg c19] at H
    exact absurd H zq12
   rw [if_neg c18] at H
   have c18b0 : decide (x7_1 < (t147.length : Int)) = false := decide_eq_false c18
   clear c18
   replace H := Option.bind_eq_some_iff.mp H
   obtain ⟨t150, A590, H⟩ := H
   replace H : (some (x147000_1, x147001_1, x147002_1, x147003_1, (t150 == 0))) = some (r1, r2, r3, r4, r5) := H
   have A59 := zK A590
   clear A590
   simp only [Option.some.injEq, Prod.mk.injEq] at H
   obtain ⟨rfl, rfl, rfl, rfl, rfl⟩ := H
   try go_wp2
   have n0_ := zK (zW HO_5.out)
   have n1_ := zK (zW HO_147001.out)
   have n2_ := zK (zP BK145.out)
   have n3_ := zK (zP BK146.out)
   have n4_ := zK (zD HB.out)
   clear HO_5
   clear HO_147001
   clear BK145
   clear BK146
   clear HB
   have HO_5 := n0_
   have HO_147001 := n1_
   have BK145 := n2_
   have BK146 := n3_
   have HB := n4_
   clear n0_ n1_ n2_ n3_ n4_
   obtain ⟨Ao61, co61, eo61⟩ := Kd.R_slice HO_147001.out
   (first | subst eo61 | (injection eo61 with f1_ f2_ f3_; have f4_ := f1_.symm; have f5_ := f3_.symm; clear f1_ f2_ f3_; subst f4_; subst f5_))
   refine start_ (n := 6) (S := fun w' => w'.cell? ⟨gb146, 0, none⟩ = some (.string x147000_1) ∧ w'.cell? ⟨gb146, 1, none⟩ = some (.slice Ao61 x147001_1.length co61) ∧ w'.cell? ⟨gb146, 2, none⟩ = some (.int .i64 x147002_1) ∧ w'.cell? ⟨gb146, 3, none⟩ = some (.string x147003_1)) (ds := []) #[zF,zF,zF,zF,zF,zF] zq6 rfl rfl ⟨(blk_cell BK146.out 0).trans rfl, (blk_cell BK146.out 1).trans rfl, (blk_cell BK146.out 2).trans rfl, (blk_cell BK146.out 3).trans rfl⟩ (fun hHeld => ?_)
   generalize wr.drew = w60 at HO_5 HO_147001 BK145 BK146 HB hHeld ⊢
   refine take_ (i := 0) (N := some 86) (v := ?_) (a' := ?_) #[zB,zF,zF,zF,zF,zF] rfl rfl zq6 (fun _ _ _ h => h) (Or.inl ⟨by rfl, ?_⟩) hHeld ?_ ?_
   rotate_left
   ·
    rintro w' ⟨s0, s1, s2, s3⟩
    go_simp
    with_reducible rfl
   rotate_left
   ·
    simp only [Act.put, zS, zT, zU, i64_w, i32_w]
    rfl
   refine take_ (i := 1) (N := some 87) (v := ?_) (a' := ?_) #[zB,zB,zF,zF,zF,zF] rfl rfl zq6 (fun _ _ _ h => h) (Or.inl ⟨by rfl, ?_⟩) hHeld ?_ ?_
   rotate_left
   ·
    rintro w' ⟨s0, s1, s2, s3⟩
    go_simp
    with_reducible rfl
   rotate_left
   ·
    simp only [Act.put, zS, zT, zU, i64_w, i32_w]
    rfl
   refine one_ (i := 2) (N := some 88) #[zB,zB,zB,zF,zF,zF] rfl rfl zq6 zq9 (fun K hK => ?_)
   refine goes_ Tryz.func91 zq6 rfl #[.agg #[.string x147000_1, .slice Ao61 x147001_1.length co61, .int .i64 x147002_1, .string x147003_1]] zq19 rfl rfl zq1 ?_
   with_reducible refine (spec_CommitFault.calls k1 x147000_1 _ _ x147001_1 x147002_1 x147003_1 t150 _ ?side1 ?side2 A59.out).mono ?_
   (case side1 => repeat (first | exact (Kd.R_reads' HO_147001.out).2.2 | (with_reducible refine Kd.C_alloc ?_ _) | (with_reducible refine Kd.C_drewN ?_ _) | (with_reducible refine Kd.C_drew ?_)))
   (case side2 => exact (Kd.R_reads' HO_147001.out).2.1)
   rintro e w62 ⟨rfl, hb⟩
   refine ⟨_, rfl, ?_⟩
   have n0_ := zK (Kd.R_below zq26 hb)
   have n1_ := zK (Kd.R_below zq23 hb)
   have n2_ := zK (blk_below (g := gb145) (o := .cells #[.string x146000_1, .slice none 0 0, .int .i64 x146002_1, .string x146003_1] 60 (0, 0)) (by (with_reducible repeat (first | refine zM ?_ _ | refine zP ?_ | refine zQ ?_ _)); exact BK145.out) hb)
   have n3_ := zK (blk_below (g := gb146) (o := .cells #[.string x147000_1, .slice Ao61 x147001_1.length co61, .int .i64 x147002_1, .string x147003_1] 60 (0, 0)) (by (with_reducible repeat (first | refine zM ?_ _ | refine zP ?_ | refine zQ ?_ _)); exact BK146.out) hb)
   have n4_ := zK (below_step (by repeat (first | (with_reducible first | exact HB.out | apply zA | apply zN | apply zD | refine below_set ?_ GE145.out | refine below_set ?_ GE146.out) | exact HB.out)) hb)
   clear HO_5
   clear HO_147001
   clear BK145
   clear BK146
   clear HB
   have HO_5 := n0_
   have HO_147001 := n1_
   have BK145 := n2_
   have BK146 := n3_
   have HB := n4_
   clear n0_ n1_ n2_ n3_ n4_
   (try clear hb)
   (try clear hb2)
   (try clear hk)
   (try clear hi)
   refine hK.out _ _ ⟨(blk_cell BK146.out 0).trans rfl, (blk_cell BK146.out 1).trans rfl, (blk_cell BK146.out 2).trans rfl, (blk_cell BK146.out 3).trans rfl⟩ (fun hHeld => ?_)
   clear hK K
   refine norm_ (a' := ?_) ?_ ?_
   rotate_left
   ·
    show Act.put _ (some 88) _ = _
    simp only [Act.put, zS, zT, zU, i64_w, i32_w]
    rfl
   refine pure_ (i := 3) (N := some 89) (v := ?_) (a' := ?_) #[zB,zB,zB,zB,zF,zF] rfl rfl zq6 (fun _ _ _ h => h) (Or.inl ⟨by rfl, ?_⟩) ?_ ?_
   rotate_left
   ·
    intro w'
    go_simp
    with_reducible rfl
   rotate_left
   ·
    simp only [Act.put, zS, zT, zU, i64_w, i32_w]
    rfl
   refine one_ (i := 4) (N := none) #[zB,zB,zB,zB,zB,zF] rfl rfl zq6 zq9 (fun K hK => ?_)
   have hs63 : w62.cell? ⟨gb145, 0, none⟩ = some (.string x146000_1) := (blk_cell BK145.out 0).trans rfl
   have hfs63 := blk_frozen BK145.out 0
   have hns63_1 := NB146_145.out
   have hms63_1 := NB145_146.out
   have hs64 : w62.cell? ⟨gb145, 1, none⟩ = some (.slice none 0 0) := (blk_cell BK145.out 1).trans rfl
   have hfs64 := blk_frozen BK145.out 1
   have hns64_1 := NB146_145.out
   have hms64_1 := NB145_146.out
   have hs65 : w62.cell? ⟨gb145, 2, none⟩ = some (.int .i64 x146002_1) := (blk_cell BK145.out 2).trans rfl
   have hfs65 := blk_frozen BK145.out 2
   have hns65_1 := NB146_145.out
   have hms65_1 := NB145_146.out
   have hs66 : w62.cell? ⟨gb145, 3, none⟩ = some (.string x146003_1) := (blk_cell BK145.out 3).trans rfl
   have hfs66 := blk_frozen BK145.out 3
   have hns66_1 := NB146_145.out
   have hms66_1 := NB145_146.out
   refine skip_ (w1 := ?_) zq19 rfl ?_ ?_
   rotate_left
   ·
    go_simp
    rfl
   refine hK.out _ _ ⟨((cell_far (p := ⟨gb145, _, none⟩) NB146_145.out _).trans (((cell_far (p := ⟨gb145, _, none⟩) NB146_145.out _).trans (((cell_far (p := ⟨gb145, _, none⟩) NB146_145.out _).trans (((cell_far (p := ⟨gb145, _, none⟩) NB146_145.out _).trans (hHeld.1)))))))), ((cell_far (p := ⟨gb145, _, none⟩) NB146_145.out _).trans (((cell_far (p := ⟨gb145, _, none⟩) NB146_145.out _).trans (((cell_far (p := ⟨gb145, _, none⟩) NB146_145.out _).trans (((cell_far (p := ⟨gb145, _, none⟩) NB146_145.out _).trans (hHeld.2.1)))))))), ((cell_far (p := ⟨gb145, _, none⟩) NB146_145.out _).trans (((cell_far (p := ⟨gb145, _, none⟩) NB146_145.out _).trans (((cell_far (p := ⟨gb145, _, none⟩) NB146_145.out _).trans (((cell_far (p := ⟨gb145, _, none⟩) NB146_145.out _).trans (hHeld.2.2.1)))))))), ((cell_far (p := ⟨gb145, _, none⟩) NB146_145.out _).trans (((cell_far (p := ⟨gb145, _, none⟩) NB146_145.out _).trans (((cell_far (p := ⟨gb145, _, none⟩) NB146_145.out _).trans (((cell_far (p := ⟨gb145, _, none⟩) NB146_145.out _).trans (hHeld.2.2.2))))))))⟩ (fun hHeld => ?_)
   clear hK K
   refine pure_ (i := 5) (N := some 3) (v := ?_) (a' := ?_) #[zB,zB,zB,zB,zB,zB] rfl rfl zq6 (fun _ _ _ h => h) (Or.inl ⟨by rfl, ?_⟩) ?_ ?_
   rotate_left
   ·
    intro w'
    go_simp
    with_reducible rfl
   rotate_left
   ·
    simp only [Act.put, zS, zT, zU, i64_w, i32_w]
    rfl
   refine done_ zq6 ?_
   try go_wp2
   refine bodyPost_ret (results_ct rfl _ _ gb145 60 #[.string x147000_1, .slice Ao61 x147001_1.length co61, .int .i64 x147002_1, .string x147003_1] (0, 0) _ rfl (by (with_reducible repeat (first | refine zM ?_ _ | refine zP ?_ | refine zQ ?_ _)); refine blk_put (cs := #[.string x147000_1, .slice Ao61 x147001_1.length co61, .int .i64 x147002_1, .string x146003_1]) ?_ 3 _ rfl; (with_reducible repeat (first | refine zM ?_ _ | refine zP ?_ | refine zQ ?_ _)); refine blk_put (cs := #[.string x147000_1, .slice Ao61 x147001_1.length co61, .int .i64 x146002_1, .string x146003_1]) ?_ 2 _ rfl; (with_reducible repeat (first | refine zM ?_ _ | refine zP ?_ | refine zQ ?_ _)); refine blk_put (cs := #[.string x147000_1, .slice none 0 0, .int .i64 x146002_1, .string x146003_1]) ?_ 1 _ rfl; (with_reducible repeat (first | refine zM ?_ _ | refine zP ?_ | refine zQ ?_ _)); refine blk_put (cs := #[.string x146000_1, .slice none 0 0, .int .i64 x146002_1, .string x146003_1]) ?_ 0 _ rfl; (with_reducible repeat (first | refine zM ?_ _ | refine zP ?_ | refine zQ ?_ _)); exact BK145.out) Tryz.underlying60 rfl zq6) rfl ?_
   exact ⟨_, zq3, (by (with_reducible repeat (first | apply zR | apply zV | apply zW)); exact Kd.R_mono (Kd.R_far (p := ⟨gb145, 3, none⟩) (Kd.R_far (p := ⟨gb145, 2, none⟩) (Kd.R_far (p := ⟨gb145, 1, none⟩) (Kd.R_far (p := ⟨gb145, 0, none⟩) (Kd.R_types HO_147001.out BK145.out zq9) (fun _ hk => hk.2) (.string x147000_1)) (fun _ hk => hk.2) (.slice Ao61 x147001_1.length co61)) (fun _ hk => hk.2) (.int .i64 x147002_1)) (fun _ hk => hk.2) (.string x147003_1)) (fun _ hk => trivial)), (by repeat (first | (with_reducible first | exact HB.out | apply zA | apply zN | apply zD | refine below_set ?_ GE145.out | refine below_set ?_ GE146.out) | exact HB.out))⟩
def spec_l9Commit.f (k : Nat) (l0 : List (S50)) (a1 : ByteArray) : Option (ByteArray × List ByteArray × Int × ByteArray × Int) := (spec_l5Get.f k l0 3 a1).bind fun bt162 => (if bt162.2 = true then ((spec_l6Uncommit.f k bt162.1).bind fun bt164 => (if bt164.2.2.2.2 = true then (some (bt164.1, bt164.2.1, bt164.2.2.1, bt164.2.2.2.1, 0)) else (some ((⟨#[]⟩ : ByteArray), ([] : List ByteArray), 0, (⟨#[]⟩ : ByteArray), 5)))) else (some ((⟨#[]⟩ : ByteArray), ([] : List ByteArray), 0, (⟨#[]⟩ : ByteArray), 4)))
set_option maxHeartbeats 8000000 in
set_option maxRecDepth 100000 in
theorem spec_l9Commit.calls (k : Nat) (A0 : Option Addr) (c0 : Nat) (l0 : List (S50)) (a1 : ByteArray) (r1 : ByteArray) (r2 : List ByteArray) (r3 : Int) (r4 : ByteArray) (r5 : Int) (w : World) (hr0 : Kd.C k50 w A0 l0.length l0) (hc0 : l0.length ≤ c0) (h : spec_l9Commit.f k l0 a1 = some (r1, r2, r3, r4, r5)) :
  Calls Tryz.prog 40 #[.slice A0 l0.length c0, .string a1] w fun e w' => ∃ v1_ : Value, e = .returned (.tuple #[.agg #[.string r1, v1_, .int .i64 r3, .string r4], .int .i64 r5]) ∧ Kd.R Kd.string 9 w' w.heap.size (fun _ => True) v1_ r2 ∧ Below w.heap.size w w' := by
 have hu60 := Tryz.underlying60
 have HR0 := zK hr0
 have HC0 := zK hc0
 clear hr0 hc0
 have HB := zK (Below.refl w.heap.size w)
 have H : ((spec_l5Get.f k l0 3 a1).bind fun bt162 => (if bt162.2 = true then ((spec_l6Uncommit.f k bt162.1).bind fun bt164 => (if bt164.2.2.2.2 = true then (some (bt164.1, bt164.2.1, bt164.2.2.1, bt164.2.2.2.1, 0)) else (some ((⟨#[]⟩ : ByteArray), ([] : List ByteArray), 0, (⟨#[]⟩ : ByteArray), 5)))) else (some ((⟨#[]⟩ : ByteArray), ([] : List ByteArray), 0, (⟨#[]⟩ : ByteArray), 4)))) = some (r1, r2, r3, r4, r5) := h
 clear h
 replace H := Option.bind_eq_some_iff.mp H
 obtain ⟨⟨t162, t163⟩, A30, H⟩ := H
 replace H : (if t163 = true then ((spec_l6Uncommit.f k t162).bind fun bt164 => (if bt164.2.2.2.2 = true then (some (bt164.1, bt164.2.1, bt164.2.2.1, bt164.2.2.2.1, 0)) else (some ((⟨#[]⟩ : ByteArray), ([] : List ByteArray), 0, (⟨#[]⟩ : ByteArray), 5)))) else (some ((⟨#[]⟩ : ByteArray), ([] : List ByteArray), 0, (⟨#[]⟩ : ByteArray), 4))) = some (r1, r2, r3, r4, r5) := H
 have A3 := zK A30
 clear A30
 by_cases c4 : t163 = true
 ·
  subst c4
  have H1 : ((spec_l6Uncommit.f k t162).bind fun bt164 => (if bt164.2.2.2.2 = true then (some (bt164.1, bt164.2.1, bt164.2.2.1, bt164.2.2.2.1, 0)) else (some ((⟨#[]⟩ : ByteArray), ([] : List ByteArray), 0, (⟨#[]⟩ : ByteArray), 5)))) = some (r1, r2, r3, r4, r5) := by rw [if_pos rfl] at H; exact H
  clear H
  have H := H1
  clear H1
  replace H := Option.bind_eq_some_iff.mp H
  obtain ⟨⟨t164, t165, t168, t169, t170⟩, A50, H⟩ := H
  replace H : (if t170 = true then (some (t164, t165, t168, t169, 0)) else (some ((⟨#[]⟩ : ByteArray), ([] : List ByteArray), 0, (⟨#[]⟩ : ByteArray), 5))) = some (r1, r2, r3, r4, r5) := H
  have A5 := zK A50
  clear A50
  by_cases c6 : t170 = true
  ·
   subst c6
   have H1 : (some (t164, t165, t168, t169, 0)) = some (r1, r2, r3, r4, r5) := by rw [if_pos rfl] at H; exact H
   clear H
   have H := H1
   clear H1
   simp only [Option.some.injEq, Prod.mk.injEq] at H
   obtain ⟨rfl, rfl, rfl, rfl, rfl⟩ := H
   go_enter Tryz.func40, Tryz.ntmps40
   go_wp2_with (first | ((with_reducible refine gate_dst (N := 4) rfl ?_); refine box_event ?hg (N := 4) ?hd (cs := #[.string (⟨#[]⟩ : ByteArray), .slice none 0 0, .int .i64 0, .string (⟨#[]⟩ : ByteArray)]) (t := 60) ?hr ?_; (case hd => rfl); (case hg => rfl); (case hr => first | (go_simp; done) | (go_simp; rfl)); intro gb161 hg w7 hbox hb; have n0_ := zK (below_step zq0 hb); have n1_ := zK (hbox); have n2_ := zK ((by rw [hg]; exact (below_size zq0) : w.heap.size ≤ gb161)); have n3_ := zK ((by rw [hg]; exact (below_size zq0) : w.heap.size ≤ gb161)); clear HB; have HB := n0_; have BK161 := n1_; have GW161 := n2_; have GE161 := n3_; clear n0_ n1_ n2_ n3_; clear hb hbox hg) | ((with_reducible refine gate_callee (f := 61) rfl ?_); refine goesL_ (some 12) rfl rfl Tryz.func61 zq6 rfl #[.slice A0 l0.length c0, .int .i64 3, .string a1] rfl zq1 ?_; (with_reducible refine (spec_l5Get.calls k _ _ l0 3 a1 t162 true _ ?side1 ?side2 A3.out).mono ?_); (case side1 => repeat (first | exact (Kd.C_below HR0.out HB.out) | (with_reducible refine Kd.C_alloc ?_ _) | (with_reducible refine Kd.C_drewN ?_ _) | (with_reducible refine Kd.C_drew ?_))); (case side2 => exact HC0.out); rintro e w' ⟨rfl, ⟨nd, rfl⟩⟩; refine ⟨_, rfl, ?_⟩; (try (rw [drewN_self w7]; generalize hq_ : World.drewN w7 _ = w7; have n0_ : Aside0 (w7.heap[gb161]? = some (.cells #[.string (⟨#[]⟩ : ByteArray), .slice none 0 0, .int .i64 0, .string (⟨#[]⟩ : ByteArray)] 60 (0, 0))) := ⟨by rw [← hq_]; exact (by (with_reducible repeat (first | refine zM ?_ _ | refine zP ?_ | refine zQ ?_ _)); exact BK161.out)⟩; have n1_ : Aside0 (Below w.heap.size w w7) := ⟨by rw [← hq_]; exact (by repeat (first | (with_reducible first | exact HB.out | apply zA | apply zN | apply zD | refine below_set ?_ GE161.out) | exact HB.out))⟩; clear BK161 HB hq_; have BK161 := n0_; have HB := n1_; clear n0_ n1_))) | ((with_reducible refine gate_callee (f := 62) rfl ?_); refine goesL_ (some 20) rfl rfl Tryz.func62 zq6 rfl #[.string t162] rfl zq1 ?_; (with_reducible refine (spec_l6Uncommit.calls k t162 t164 t165 t168 t169 true _ A5.out).mono ?_); rintro e w8 ⟨v166, rfl, ho0, hb⟩; refine ⟨_, rfl, ?_⟩; have n0_ := zK (Kd.R_lower ho0 (below_size (by repeat (first | (with_reducible first | exact HB.out | apply zA | apply zN | apply zD | refine below_set ?_ GE161.out) | exact HB.out)))); have n1_ := zK (blk_below (g := gb161) (o := .cells #[.string (⟨#[]⟩ : ByteArray), .slice none 0 0, .int .i64 0, .string (⟨#[]⟩ : ByteArray)] 60 (0, 0)) (by (with_reducible repeat (first | refine zM ?_ _ | refine zP ?_ | refine zQ ?_ _)); exact BK161.out) hb); have n2_ := zK (below_step (by repeat (first | (with_reducible first | exact HB.out | apply zA | apply zN | apply zD | refine below_set ?_ GE161.out) | exact HB.out)) hb); clear BK161; clear HB; have HO167 := n0_; have BK161 := n1_; have HB := n2_; clear n0_ n1_ n2_; (try clear hb); (try clear hb2); (try clear hk); (try clear hi); (try clear ho0)) | ((with_reducible refine gate_dst (N := 8) rfl ?_); refine box_event ?hg (N := 8) ?hd (cs := #[.string (⟨#[]⟩ : ByteArray), .slice none 0 0, .int .i64 0, .string (⟨#[]⟩ : ByteArray)]) (t := 60) ?hr ?_; (case hd => rfl); (case hg => rfl); (case hr => first | (go_simp; done) | (go_simp; rfl)); intro gb171 hg w9 hbox hb; have n0_ := zK (Kd.R_below (by (with_reducible repeat (first | apply zR | apply zV | apply zW)); exact HO167.out) hb); have n1_ := zK (blk_below (g := gb161) (o := .cells #[.string (⟨#[]⟩ : ByteArray), .slice none 0 0, .int .i64 0, .string (⟨#[]⟩ : ByteArray)] 60 (0, 0)) (by (with_reducible repeat (first | refine zM ?_ _ | refine zP ?_ | refine zQ ?_ _)); exact BK161.out) hb); have n2_ := zK (below_step (by repeat (first | (with_reducible first | exact HB.out | apply zA | apply zN | apply zD | refine below_set ?_ GE161.out) | exact HB.out)) hb); have n3_ := zK (hbox); have n4_ := zK ((by rw [hg]; exact (below_size (by repeat (first | (with_reducible first | exact HB.out | apply zA | apply zN | apply zD | refine below_set ?_ GE161.out) | exact HB.out))) : w.heap.size ≤ gb171)); have n5_ := zK ((by rw [hg]; exact (below_size (by repeat (first | (with_reducible first | exact HB.out | apply zA | apply zN | apply zD | refine below_set ?_ GE161.out) | exact HB.out))) : w.heap.size ≤ gb171)); have n6_ := zK ((by rw [hg]; exact Nat.ne_of_lt (blk_lt (g := gb161) (o := .cells #[.string (⟨#[]⟩ : ByteArray), .slice none 0 0, .int .i64 0, .string (⟨#[]⟩ : ByteArray)] 60 (0, 0)) (by (with_reducible repeat (first | refine zM ?_ _ | refine zP ?_ | refine zQ ?_ _)); exact BK161.out)) : gb161 ≠ gb171)); have n7_ := zK ((by rw [hg]; exact Nat.ne_of_gt (blk_lt (g := gb161) (o := .cells #[.string (⟨#[]⟩ : ByteArray), .slice none 0 0, .int .i64 0, .string (⟨#[]⟩ : ByteArray)] 60 (0, 0)) (by (with_reducible repeat (first | refine zM ?_ _ | refine zP ?_ | refine zQ ?_ _)); exact BK161.out)) : gb171 ≠ gb161)); clear HO167; clear BK161; clear HB; have HO167 := n0_; have BK161 := n1_; have HB := n2_; have BK171 := n3_; have GW171 := n4_; have GE171 := n5_; have NB161_171 := n6_; have NB171_161 := n7_; clear n0_ n1_ n2_ n3_ n4_ n5_ n6_ n7_; clear hb hbox hg; have hnb10 := NB171_161.out; have hnc10 := NB161_171.out; have hcz11_0 : w9.cell? ⟨gb171, 0, none⟩ = some (.string (⟨#[]⟩ : ByteArray)) := (blk_cell BK171.out 0).trans rfl; have hcz11_1 : w9.cell? ⟨gb171, 1, none⟩ = some (.slice none 0 0) := (blk_cell BK171.out 1).trans rfl; have hcz11_2 : w9.cell? ⟨gb171, 2, none⟩ = some (.int .i64 0) := (blk_cell BK171.out 2).trans rfl; have hcz11_3 : w9.cell? ⟨gb171, 3, none⟩ = some (.string (⟨#[]⟩ : ByteArray)) := (blk_cell BK171.out 3).trans rfl; have hfz11_0 := blk_frozen BK171.out 0; have hfz11_1 := blk_frozen BK171.out 1; have hfz11_2 := blk_frozen BK171.out 2; have hfz11_3 := blk_frozen BK171.out 3; obtain ⟨Ao12, co12, eo12⟩ := Kd.R_slice HO167.out; subst eo12; have hcz13_0 : w9.cell? ⟨gb161, 0, none⟩ = some (.string (⟨#[]⟩ : ByteArray)) := (blk_cell BK161.out 0).trans rfl; have hcz13_1 : w9.cell? ⟨gb161, 1, none⟩ = some (.slice none 0 0) := (blk_cell BK161.out 1).trans rfl; have hcz13_2 : w9.cell? ⟨gb161, 2, none⟩ = some (.int .i64 0) := (blk_cell BK161.out 2).trans rfl; have hcz13_3 : w9.cell? ⟨gb161, 3, none⟩ = some (.string (⟨#[]⟩ : ByteArray)) := (blk_cell BK161.out 3).trans rfl; have hfz13_0 := blk_frozen BK161.out 0; have hfz13_1 := blk_frozen BK161.out 1; have hfz13_2 := blk_frozen BK161.out 2; have hfz13_3 := blk_frozen BK161.out 3))
   refine bodyPost_ret (results_ct rfl _ _ gb161 60 #[.string t164, .slice Ao12 t165.length co12, .int .i64 t168, .string t169] (0, 0) _ rfl (by (with_reducible repeat (first | refine zM ?_ _ | refine zP ?_ | refine zQ ?_ _)); refine blk_put (cs := #[.string t164, .slice Ao12 t165.length co12, .int .i64 t168, .string (⟨#[]⟩ : ByteArray)]) ?_ 3 _ rfl; (with_reducible repeat (first | refine zM ?_ _ | refine zP ?_ | refine zQ ?_ _)); refine blk_put (cs := #[.string t164, .slice Ao12 t165.length co12, .int .i64 0, .string (⟨#[]⟩ : ByteArray)]) ?_ 2 _ rfl; (with_reducible repeat (first | refine zM ?_ _ | refine zP ?_ | refine zQ ?_ _)); refine blk_put (cs := #[.string t164, .slice none 0 0, .int .i64 0, .string (⟨#[]⟩ : ByteArray)]) ?_ 1 _ rfl; (with_reducible repeat (first | refine zM ?_ _ | refine zP ?_ | refine zQ ?_ _)); refine blk_put (cs := #[.string (⟨#[]⟩ : ByteArray), .slice none 0 0, .int .i64 0, .string (⟨#[]⟩ : ByteArray)]) ?_ 0 _ rfl; (with_reducible repeat (first | refine zM ?_ _ | refine zP ?_ | refine zQ ?_ _)); refine blk_far ?_ NB161_171.out _; (with_reducible repeat (first | refine zM ?_ _ | refine zP ?_ | refine zQ ?_ _)); refine blk_far ?_ NB161_171.out _; (with_reducible repeat (first | refine zM ?_ _ | refine zP ?_ | refine zQ ?_ _)); refine blk_far ?_ NB161_171.out _; (with_reducible repeat (first | refine zM ?_ _ | refine zP ?_ | refine zQ ?_ _)); refine blk_far ?_ NB161_171.out _; (with_reducible repeat (first | refine zM ?_ _ | refine zP ?_ | refine zQ ?_ _)); exact BK161.out) Tryz.underlying60 rfl zq6) rfl ?_
   exact ⟨_, zq3, (by (with_reducible repeat (first | apply zR | apply zV | apply zW)); exact Kd.R_mono (Kd.R_far (p := ⟨gb161, 3, none⟩) (Kd.R_far (p := ⟨gb161, 2, none⟩) (Kd.R_far (p := ⟨gb161, 1, none⟩) (Kd.R_far (p := ⟨gb161, 0, none⟩) (Kd.R_far (p := ⟨gb171, 3, none⟩) (Kd.R_far (p := ⟨gb171, 2, none⟩) (Kd.R_far (p := ⟨gb171, 1, none⟩) (Kd.R_far (p := ⟨gb171, 0, none⟩) (Kd.R_types (Kd.R_types HO167.out BK171.out zq9) BK161.out zq9) (fun _ hk => hk.1.2) (.string t164)) (fun _ hk => hk.1.2) (.slice Ao12 t165.length co12)) (fun _ hk => hk.1.2) (.int .i64 t168)) (fun _ hk => hk.1.2) (.string t169)) (fun _ hk => hk.2) (.string t164)) (fun _ hk => hk.2) (.slice Ao12 t165.length co12)) (fun _ hk => hk.2) (.int .i64 t168)) (fun _ hk => hk.2) (.string t169)) (fun _ hk => trivial)), (by repeat (first | (with_reducible first | exact HB.out | apply zA | apply zN | apply zD | refine below_set ?_ GE161.out | refine below_set ?_ GE171.out) | exact HB.out))⟩
  replace c6 := Bool.eq_false_iff.mpr c6
  subst c6
  have H1 : (some ((⟨#[]⟩ : ByteArray), ([] : List ByteArray), 0, (⟨#[]⟩ : ByteArray), 5)) = some (r1, r2, r3, r4, r5) := by rw [if_neg (show ¬ (false = true) by decide)] at H; exact H
  clear H
  have H := H1
  clear H1
  simp only [Option.some.injEq, Prod.mk.injEq] at H
  obtain ⟨rfl, rfl, rfl, rfl, rfl⟩ := H
  go_enter Tryz.func40, Tryz.ntmps40
  go_wp2_with (first | ((with_reducible refine gate_dst (N := 4) rfl ?_); refine box_event ?hg (N := 4) ?hd (cs := #[.string (⟨#[]⟩ : ByteArray), .slice none 0 0, .int .i64 0, .string (⟨#[]⟩ : ByteArray)]) (t := 60) ?hr ?_; (case hd => rfl); (case hg => rfl); (case hr => first | (go_simp; done) | (go_simp; rfl)); intro gb161 hg w14 hbox hb; have n0_ := zK (below_step zq0 hb); have n1_ := zK (hbox); have n2_ := zK ((by rw [hg]; exact (below_size zq0) : w.heap.size ≤ gb161)); have n3_ := zK ((by rw [hg]; exact (below_size zq0) : w.heap.size ≤ gb161)); clear HB; have HB := n0_; have BK161 := n1_; have GW161 := n2_; have GE161 := n3_; clear n0_ n1_ n2_ n3_; clear hb hbox hg) | ((with_reducible refine gate_callee (f := 61) rfl ?_); refine goesL_ (some 12) rfl rfl Tryz.func61 zq6 rfl #[.slice A0 l0.length c0, .int .i64 3, .string a1] rfl zq1 ?_; (with_reducible refine (spec_l5Get.calls k _ _ l0 3 a1 t162 true _ ?side1 ?side2 A3.out).mono ?_); (case side1 => repeat (first | exact (Kd.C_below HR0.out HB.out) | (with_reducible refine Kd.C_alloc ?_ _) | (with_reducible refine Kd.C_drewN ?_ _) | (with_reducible refine Kd.C_drew ?_))); (case side2 => exact HC0.out); rintro e w' ⟨rfl, ⟨nd, rfl⟩⟩; refine ⟨_, rfl, ?_⟩; (try (rw [drewN_self w14]; generalize hq_ : World.drewN w14 _ = w14; have n0_ : Aside0 (w14.heap[gb161]? = some (.cells #[.string (⟨#[]⟩ : ByteArray), .slice none 0 0, .int .i64 0, .string (⟨#[]⟩ : ByteArray)] 60 (0, 0))) := ⟨by rw [← hq_]; exact (by (with_reducible repeat (first | refine zM ?_ _ | refine zP ?_ | refine zQ ?_ _)); exact BK161.out)⟩; have n1_ : Aside0 (Below w.heap.size w w14) := ⟨by rw [← hq_]; exact (by repeat (first | (with_reducible first | exact HB.out | apply zA | apply zN | apply zD | refine below_set ?_ GE161.out) | exact HB.out))⟩; clear BK161 HB hq_; have BK161 := n0_; have HB := n1_; clear n0_ n1_))) | ((with_reducible refine gate_callee (f := 62) rfl ?_); refine goesL_ (some 20) rfl rfl Tryz.func62 zq6 rfl #[.string t162] rfl zq1 ?_; (with_reducible refine (spec_l6Uncommit.calls k t162 t164 t165 t168 t169 false _ A5.out).mono ?_); rintro e w15 ⟨v166, rfl, ho0, hb⟩; refine ⟨_, rfl, ?_⟩; have n0_ := zK (Kd.R_lower ho0 (below_size (by repeat (first | (with_reducible first | exact HB.out | apply zA | apply zN | apply zD | refine below_set ?_ GE161.out) | exact HB.out)))); have n1_ := zK (blk_below (g := gb161) (o := .cells #[.string (⟨#[]⟩ : ByteArray), .slice none 0 0, .int .i64 0, .string (⟨#[]⟩ : ByteArray)] 60 (0, 0)) (by (with_reducible repeat (first | refine zM ?_ _ | refine zP ?_ | refine zQ ?_ _)); exact BK161.out) hb); have n2_ := zK (below_step (by repeat (first | (with_reducible first | exact HB.out | apply zA | apply zN | apply zD | refine below_set ?_ GE161.out) | exact HB.out)) hb); clear BK161; clear HB; have HO167 := n0_; have BK161 := n1_; have HB := n2_; clear n0_ n1_ n2_; (try clear hb); (try clear hb2); (try clear hk); (try clear hi); (try clear ho0)) | ((with_reducible refine gate_dst (N := 8) rfl ?_); refine box_event ?hg (N := 8) ?hd (cs := #[.string (⟨#[]⟩ : ByteArray), .slice none 0 0, .int .i64 0, .string (⟨#[]⟩ : ByteArray)]) (t := 60) ?hr ?_; (case hd => rfl); (case hg => rfl); (case hr => first | (go_simp; done) | (go_simp; rfl)); intro gb171 hg w16 hbox hb; have n0_ := zK (Kd.R_below (by (with_reducible repeat (first | apply zR | apply zV | apply zW)); exact HO167.out) hb); have n1_ := zK (blk_below (g := gb161) (o := .cells #[.string (⟨#[]⟩ : ByteArray), .slice none 0 0, .int .i64 0, .string (⟨#[]⟩ : ByteArray)] 60 (0, 0)) (by (with_reducible repeat (first | refine zM ?_ _ | refine zP ?_ | refine zQ ?_ _)); exact BK161.out) hb); have n2_ := zK (below_step (by repeat (first | (with_reducible first | exact HB.out | apply zA | apply zN | apply zD | refine below_set ?_ GE161.out) | exact HB.out)) hb); have n3_ := zK (hbox); have n4_ := zK ((by rw [hg]; exact (below_size (by repeat (first | (with_reducible first | exact HB.out | apply zA | apply zN | apply zD | refine below_set ?_ GE161.out) | exact HB.out))) : w.heap.size ≤ gb171)); have n5_ := zK ((by rw [hg]; exact (below_size (by repeat (first | (with_reducible first | exact HB.out | apply zA | apply zN | apply zD | refine below_set ?_ GE161.out) | exact HB.out))) : w.heap.size ≤ gb171)); have n6_ := zK ((by rw [hg]; exact Nat.ne_of_lt (blk_lt (g := gb161) (o := .cells #[.string (⟨#[]⟩ : ByteArray), .slice none 0 0, .int .i64 0, .string (⟨#[]⟩ : ByteArray)] 60 (0, 0)) (by (with_reducible repeat (first | refine zM ?_ _ | refine zP ?_ | refine zQ ?_ _)); exact BK161.out)) : gb161 ≠ gb171)); have n7_ := zK ((by rw [hg]; exact Nat.ne_of_gt (blk_lt (g := gb161) (o := .cells #[.string (⟨#[]⟩ : ByteArray), .slice none 0 0, .int .i64 0, .string (⟨#[]⟩ : ByteArray)] 60 (0, 0)) (by (with_reducible repeat (first | refine zM ?_ _ | refine zP ?_ | refine zQ ?_ _)); exact BK161.out)) : gb171 ≠ gb161)); clear HO167; clear BK161; clear HB; have HO167 := n0_; have BK161 := n1_; have HB := n2_; have BK171 := n3_; have GW171 := n4_; have GE171 := n5_; have NB161_171 := n6_; have NB171_161 := n7_; clear n0_ n1_ n2_ n3_ n4_ n5_ n6_ n7_; clear hb hbox hg; have hnb17 := NB171_161.out; have hnc17 := NB161_171.out; have hcz18_0 : w16.cell? ⟨gb171, 0, none⟩ = some (.string (⟨#[]⟩ : ByteArray)) := (blk_cell BK171.out 0).trans rfl; have hcz18_1 : w16.cell? ⟨gb171, 1, none⟩ = some (.slice none 0 0) := (blk_cell BK171.out 1).trans rfl; have hcz18_2 : w16.cell? ⟨gb171, 2, none⟩ = some (.int .i64 0) := (blk_cell BK171.out 2).trans rfl; have hcz18_3 : w16.cell? ⟨gb171, 3, none⟩ = some (.string (⟨#[]⟩ : ByteArray)) := (blk_cell BK171.out 3).trans rfl; have hfz18_0 := blk_frozen BK171.out 0; have hfz18_1 := blk_frozen BK171.out 1; have hfz18_2 := blk_frozen BK171.out 2; have hfz18_3 := blk_frozen BK171.out 3; obtain ⟨Ao19, co19, eo19⟩ := Kd.R_slice HO167.out; subst eo19; have hcz20_0 : w16.cell? ⟨gb161, 0, none⟩ = some (.string (⟨#[]⟩ : ByteArray)) := (blk_cell BK161.out 0).trans rfl; have hcz20_1 : w16.cell? ⟨gb161, 1, none⟩ = some (.slice none 0 0) := (blk_cell BK161.out 1).trans rfl; have hcz20_2 : w16.cell? ⟨gb161, 2, none⟩ = some (.int .i64 0) := (blk_cell BK161.out 2).trans rfl; have hcz20_3 : w16.cell? ⟨gb161, 3, none⟩ = some (.string (⟨#[]⟩ : ByteArray)) := (blk_cell BK161.out 3).trans rfl; have hfz20_0 := blk_frozen BK161.out 0; have hfz20_1 := blk_frozen BK161.out 1; have hfz20_2 := blk_frozen BK161.out 2; have hfz20_3 := blk_frozen BK161.out 3))
  refine bodyPost_ret (results_ct rfl _ _ gb161 60 #[.string (⟨#[]⟩ : ByteArray), .slice none 0 0, .int .i64 0, .string (⟨#[]⟩ : ByteArray)] (0, 0) _ rfl (by (with_reducible repeat (first | refine zM ?_ _ | refine zP ?_ | refine zQ ?_ _)); refine blk_put (cs := #[.string (⟨#[]⟩ : ByteArray), .slice none 0 0, .int .i64 0, .string (⟨#[]⟩ : ByteArray)]) ?_ 3 _ rfl; (with_reducible repeat (first | refine zM ?_ _ | refine zP ?_ | refine zQ ?_ _)); refine blk_put (cs := #[.string (⟨#[]⟩ : ByteArray), .slice none 0 0, .int .i64 0, .string (⟨#[]⟩ : ByteArray)]) ?_ 2 _ rfl; (with_reducible repeat (first | refine zM ?_ _ | refine zP ?_ | refine zQ ?_ _)); refine blk_put (cs := #[.string (⟨#[]⟩ : ByteArray), .slice none 0 0, .int .i64 0, .string (⟨#[]⟩ : ByteArray)]) ?_ 1 _ rfl; (with_reducible repeat (first | refine zM ?_ _ | refine zP ?_ | refine zQ ?_ _)); refine blk_put (cs := #[.string (⟨#[]⟩ : ByteArray), .slice none 0 0, .int .i64 0, .string (⟨#[]⟩ : ByteArray)]) ?_ 0 _ rfl; (with_reducible repeat (first | refine zM ?_ _ | refine zP ?_ | refine zQ ?_ _)); refine blk_far ?_ NB161_171.out _; (with_reducible repeat (first | refine zM ?_ _ | refine zP ?_ | refine zQ ?_ _)); refine blk_far ?_ NB161_171.out _; (with_reducible repeat (first | refine zM ?_ _ | refine zP ?_ | refine zQ ?_ _)); refine blk_far ?_ NB161_171.out _; (with_reducible repeat (first | refine zM ?_ _ | refine zP ?_ | refine zQ ?_ _)); refine blk_far ?_ NB161_171.out _; (with_reducible repeat (first | refine zM ?_ _ | refine zP ?_ | refine zQ ?_ _)); exact BK161.out) Tryz.underlying60 rfl zq6) rfl ?_
  exact ⟨_, zq3, zq11, (by repeat (first | (with_reducible first | exact HB.out | apply zA | apply zN | apply zD | refine below_set ?_ GE161.out | refine below_set ?_ GE171.out) | exact HB.out))⟩
 replace c4 := Bool.eq_false_iff.mpr c4
 subst c4
 have H1 : (some ((⟨#[]⟩ : ByteArray), ([] : List ByteArray), 0, (⟨#[]⟩ : ByteArray), 4)) = some (r1, r2, r3, r4, r5) := by rw [if_neg (show ¬ (false = true) by decide)] at H; exact H
 clear H
 have H := H1
 clear H1
 simp only [Option.some.injEq, Prod.mk.injEq] at H
 obtain ⟨rfl, rfl, rfl, rfl, rfl⟩ := H
 go_enter Tryz.func40, Tryz.ntmps40
 go_wp2_with (first | ((with_reducible refine gate_dst (N := 4) rfl ?_); refine box_event ?hg (N := 4) ?hd (cs := #[.string (⟨#[]⟩ : ByteArray), .slice none 0 0, .int .i64 0, .string (⟨#[]⟩ : ByteArray)]) (t := 60) ?hr ?_; (case hd => rfl); (case hg => rfl); (case hr => first | (go_simp; done) | (go_simp; rfl)); intro gb161 hg w21 hbox hb; have n0_ := zK (below_step zq0 hb); have n1_ := zK (hbox); have n2_ := zK ((by rw [hg]; exact (below_size zq0) : w.heap.size ≤ gb161)); have n3_ := zK ((by rw [hg]; exact (below_size zq0) : w.heap.size ≤ gb161)); clear HB; have HB := n0_; have BK161 := n1_; have GW161 := n2_; have GE161 := n3_; clear n0_ n1_ n2_ n3_; clear hb hbox hg) | ((with_reducible refine gate_callee (f := 61) rfl ?_); refine goesL_ (some 12) rfl rfl Tryz.func61 zq6 rfl #[.slice A0 l0.length c0, .int .i64 3, .string a1] rfl zq1 ?_; (with_reducible refine (spec_l5Get.calls k _ _ l0 3 a1 t162 false _ ?side1 ?side2 A3.out).mono ?_); (case side1 => repeat (first | exact (Kd.C_below HR0.out HB.out) | (with_reducible refine Kd.C_alloc ?_ _) | (with_reducible refine Kd.C_drewN ?_ _) | (with_reducible refine Kd.C_drew ?_))); (case side2 => exact HC0.out); rintro e w' ⟨rfl, ⟨nd, rfl⟩⟩; refine ⟨_, rfl, ?_⟩; (try (rw [drewN_self w21]; generalize hq_ : World.drewN w21 _ = w21; have n0_ : Aside0 (w21.heap[gb161]? = some (.cells #[.string (⟨#[]⟩ : ByteArray), .slice none 0 0, .int .i64 0, .string (⟨#[]⟩ : ByteArray)] 60 (0, 0))) := ⟨by rw [← hq_]; exact (by (with_reducible repeat (first | refine zM ?_ _ | refine zP ?_ | refine zQ ?_ _)); exact BK161.out)⟩; have n1_ : Aside0 (Below w.heap.size w w21) := ⟨by rw [← hq_]; exact (by repeat (first | (with_reducible first | exact HB.out | apply zA | apply zN | apply zD | refine below_set ?_ GE161.out) | exact HB.out))⟩; clear BK161 HB hq_; have BK161 := n0_; have HB := n1_; clear n0_ n1_)); have hcz22_0 : w21.cell? ⟨gb161, 0, none⟩ = some (.string (⟨#[]⟩ : ByteArray)) := (blk_cell BK161.out 0).trans rfl; have hcz22_1 : w21.cell? ⟨gb161, 1, none⟩ = some (.slice none 0 0) := (blk_cell BK161.out 1).trans rfl; have hcz22_2 : w21.cell? ⟨gb161, 2, none⟩ = some (.int .i64 0) := (blk_cell BK161.out 2).trans rfl; have hcz22_3 : w21.cell? ⟨gb161, 3, none⟩ = some (.string (⟨#[]⟩ : ByteArray)) := (blk_cell BK161.out 3).trans rfl; have hfz22_0 := blk_frozen BK161.out 0; have hfz22_1 := blk_frozen BK161.out 1; have hfz22_2 := blk_frozen BK161.out 2; have hfz22_3 := blk_frozen BK161.out 3))
 refine bodyPost_ret (results_ct rfl _ _ gb161 60 #[.string (⟨#[]⟩ : ByteArray), .slice none 0 0, .int .i64 0, .string (⟨#[]⟩ : ByteArray)] (0, 0) _ rfl (by (with_reducible repeat (first | refine zM ?_ _ | refine zP ?_ | refine zQ ?_ _)); refine blk_put (cs := #[.string (⟨#[]⟩ : ByteArray), .slice none 0 0, .int .i64 0, .string (⟨#[]⟩ : ByteArray)]) ?_ 3 _ rfl; (with_reducible repeat (first | refine zM ?_ _ | refine zP ?_ | refine zQ ?_ _)); refine blk_put (cs := #[.string (⟨#[]⟩ : ByteArray), .slice none 0 0, .int .i64 0, .string (⟨#[]⟩ : ByteArray)]) ?_ 2 _ rfl; (with_reducible repeat (first | refine zM ?_ _ | refine zP ?_ | refine zQ ?_ _)); refine blk_put (cs := #[.string (⟨#[]⟩ : ByteArray), .slice none 0 0, .int .i64 0, .string (⟨#[]⟩ : ByteArray)]) ?_ 1 _ rfl; (with_reducible repeat (first | refine zM ?_ _ | refine zP ?_ | refine zQ ?_ _)); refine blk_put (cs := #[.string (⟨#[]⟩ : ByteArray), .slice none 0 0, .int .i64 0, .string (⟨#[]⟩ : ByteArray)]) ?_ 0 _ rfl; (with_reducible repeat (first | refine zM ?_ _ | refine zP ?_ | refine zQ ?_ _)); exact BK161.out) Tryz.underlying60 rfl zq6) rfl ?_
 exact ⟨_, zq3, zq11, (by repeat (first | (with_reducible first | exact HB.out | apply zA | apply zN | apply zD | refine below_set ?_ GE161.out) | exact HB.out))⟩
def spec_l9Has.l0 : Nat → List ByteArray → ByteArray → Int → Option (Bool)
 | 0, _, _, _ => none
 | k + 1, x0, x1, x5 => if x5 < (x0.length : Int) then (if 0 ≤ x5 then (if (rdOf ByteArray.empty x0 x5).toList = x1.toList then (some true) else (spec_l9Has.l0 k x0 x1 (wrap64 (x5 + 1)))) else (none)) else (some false)
def spec_l9Has.f (k : Nat) (l0 : List ByteArray) (a1 : ByteArray) : Option (Bool) := spec_l9Has.l0 k l0 a1 0
set_option maxHeartbeats 8000000 in
set_option maxRecDepth 100000 in
theorem spec_l9Has.calls (k : Nat) (A0 : Option Addr) (c0 : Nat) (l0 : List ByteArray) (a1 : ByteArray) (r : Bool) (w : World) (hr0 : Kd.C Kd.string w A0 l0.length l0) (hc0 : l0.length ≤ c0) (h : spec_l9Has.f k l0 a1 = some r) :
  Calls Tryz.prog 57 #[.slice A0 l0.length c0, .string a1] w fun e w' => e = .returned (.bool r) ∧ Drawn0 w w' := by
 have HR0 := zK hr0
 have HC0 := zK hc0
 clear hr0 hc0
 have H : (spec_l9Has.l0 k l0 a1 0) = some r := h
 clear h
 have H' := zK H
 clear H
 go_enter Tryz.func57, Tryz.ntmps57
 go_wp2
 go_loopg [5] k (fun kq v5 w' => ∃ (x5_1 : Int), v5 = .int .i64 x5_1 ∧ Aside0 (spec_l9Has.l0 kq l0 a1 x5_1 = some r) ∧ Aside0 (kq ≤ k) ∧ Drawn0 w w')
 case atStart => exact ⟨(0), zq5, H', ⟨Nat.le_refl _⟩, by repeat (first | exact Drawn0.refl _ | apply Drawn0.step)⟩
 case round =>
  clear H'
  try clear p2
  obtain ⟨x5_1, rfl, HA, HK1, ⟨m1, rfl⟩⟩ := hrel
  cases gk with
  | zero => exact absurd HA.out (by simp [spec_l9Has.l0])
  | succ k1 =>
   have H := HA.out
   clear HA
   simp only [spec_l9Has.l0] at H
   by_cases c3 : x5_1 < (l0.length : Int)
   ·
    rw [if_pos c3] at H
    have c3b0 : decide (x5_1 < (l0.length : Int)) = true := decide_eq_true c3
    clear c3
    by_cases c4 : 0 ≤ x5_1
    ·
     rw [if_pos c4] at H
     have c4b0 : decide (0 ≤ x5_1) = true := decide_eq_true c4
     clear c4
     by_cases c5 : (rdOf ByteArray.empty l0 x5_1).toList = a1.toList
     ·
      rw [if_pos c5] at H
      have c5b0 : ((rdOf ByteArray.empty l0 x5_1).toList == a1.toList) = true := beq_iff_eq.mpr c5
      have c5b1 : ((rdOf ByteArray.empty l0 x5_1).toList != a1.toList) = false := bne_eq_false_iff_eq.mpr c5
      clear c5
      obtain rfl := Option.some.inj H
      have p172 : 0 ≤ (x5_1 : Int) := zX zq2
      have q172 : x5_1 < (l0.length : Int) := zX zq2
      obtain ⟨ad172, e172, hx172_0⟩ := Kd.at_string HR0.out x5_1 p172 q172
      cases e172
      replace p172 := eq_true p172
      replace q172 := eq_true q172
      go_wp2
      go_ret
      exact ⟨zq5, zq8⟩
     rw [if_neg c5] at H
     have c5b0 : ((rdOf ByteArray.empty l0 x5_1).toList == a1.toList) = false := beq_eq_false_iff_ne.mpr c5
     have c5b1 : ((rdOf ByteArray.empty l0 x5_1).toList != a1.toList) = true := bne_iff_ne.mpr c5
     have H' := zK H
     clear H
     have p172 : 0 ≤ (x5_1 : Int) := zX zq2
     have q172 : x5_1 < (l0.length : Int) := zX zq2
     obtain ⟨ad172, e172, hx172_0⟩ := Kd.at_string HR0.out x5_1 p172 q172
     cases e172
     replace p172 := eq_true p172
     replace q172 := eq_true q172
     go_wp2
     go_roundg k1
     case measure => have := HK1.out; omega
     case rel => exact ⟨(wrap64 (x5_1 + 1)), zq5, H', ⟨by have := HK1.out; omega⟩, by repeat (first | exact Drawn0.refl _ | apply Drawn0.step)⟩
    rw [if_neg c4] at H
    exact absurd H zq12
   rw [if_neg c3] at H
   have c3b0 : decide (x5_1 < (l0.length : Int)) = false := decide_eq_false c3
   clear c3
   obtain rfl := Option.some.inj H
   go_wp2
   go_ret
   exact ⟨zq5, zq8⟩
def impl_firstCode.l0 : Nat → List Int → Int → Int → Option (Int)
 | 0, _, _, _ => none
 | k + 1, x5, x6, x7 => if x7 < x6 then (if 0 ≤ x7 then (if x7 < (x5.length : Int) then (if (rd x5 x7) = 0 then (impl_firstCode.l0 k x5 x6 (wrap64 (x7 + 1))) else (some (rd x5 x7))) else (none)) else (none)) else (some 0)
def impl_firstCode.f (k : Nat) (l0 : List Int) : Option (Int) := impl_firstCode.l0 k l0 (l0.length : Int) 0
theorem impl_firstCode.mono_l : ∀ k, (∀ y0 y1 y2, LeO (impl_firstCode.l0 k y0 y1 y2) (impl_firstCode.l0 (k + 1) y0 y1 y2))
 | 0 => fun _ _ _ r h => by simp [impl_firstCode.l0] at h
 | k + 1 => by
  have ih0 := impl_firstCode.mono_l k
  intro y0 y1 y2
  unfold impl_firstCode.l0
  repeat' first
  | (with_reducible exact ih0 _ _ _)
  | (with_reducible exact LeO.refl _)
  | (with_reducible exact LeO.none _)
  | (with_reducible refine LeO.ite ?_ ?_)
  | (with_reducible refine LeO.bind ?_ (fun _ => ?_))
  | exact ih0 _ _ _
  | exact LeO.none _
  | refine LeO.ite ?_ ?_
  | refine LeO.bind ?_ (fun _ => ?_)
theorem impl_firstCode.mono : ∀ a0 k, LeO (impl_firstCode.f k a0) (impl_firstCode.f (k + 1) a0) := by
 intro a0 k
 have ih0 := impl_firstCode.mono_l k
 unfold impl_firstCode.f
 repeat' first
   | (with_reducible exact ih0 _ _ _)
   | (with_reducible exact LeO.refl _)
   | (with_reducible exact LeO.none _)
   | (with_reducible refine LeO.ite ?_ ?_)
   | (with_reducible refine LeO.bind ?_ (fun _ => ?_))
   | exact ih0 _ _ _
   | exact LeO.none _
   | refine LeO.ite ?_ ?_
   | refine LeO.bind ?_ (fun _ => ?_)
set_option maxHeartbeats 8000000 in
set_option maxRecDepth 100000 in
theorem impl_firstCode.calls (k : Nat) (A0 : Option Addr) (c0 : Nat) (l0 : List Int) (r : Int) (w : World) (hr0 : Kd.C (Kd.int .i64) w A0 l0.length l0) (hc0 : l0.length ≤ c0) (h : impl_firstCode.f k l0 = some r) :
  Calls Tryz.prog 68 #[.slice A0 l0.length c0] w fun e w' => e = .returned (.int .i64 r) ∧ Drawn0 w w' := by
 have HR0 := zK hr0
 have HC0 := zK hc0
 clear hr0 hc0
 have H : (impl_firstCode.l0 k l0 (l0.length : Int) 0) = some r := h
 clear h
 have H' := zK H
 clear H
 go_enter Tryz.func68, Tryz.ntmps68
 go_wp2
 go_loopg [7] k (fun kq v7 w' => ∃ (x7_1 : Int), v7 = .int .i64 x7_1 ∧ Aside0 (impl_firstCode.l0 kq l0 (l0.length : Int) x7_1 = some r) ∧ Aside0 (kq ≤ k) ∧ Drawn0 w w')
 case atStart => exact ⟨(0), zq5, H', ⟨Nat.le_refl _⟩, by repeat (first | exact Drawn0.refl _ | apply Drawn0.step)⟩
 case round =>
  clear H'
  obtain ⟨x7_1, rfl, HA, HK1, ⟨m1, rfl⟩⟩ := hrel
  cases gk with
  | zero => exact absurd HA.out (by simp [impl_firstCode.l0])
  | succ k1 =>
   have H := HA.out
   clear HA
   simp only [impl_firstCode.l0] at H
   by_cases c2 : x7_1 < (l0.length : Int)
   ·
    rw [if_pos c2] at H
    have c2b0 : decide (x7_1 < (l0.length : Int)) = true := decide_eq_true c2
    clear c2
    by_cases c3 : 0 ≤ x7_1
    ·
     rw [if_pos c3] at H
     have c3b0 : decide (0 ≤ x7_1) = true := decide_eq_true c3
     clear c3
     by_cases c4 : x7_1 < (l0.length : Int)
     ·
      rw [if_pos c4] at H
      have c4b0 : decide (x7_1 < (l0.length : Int)) = true := decide_eq_true c4
      clear c4
      by_cases c5 : (rd l0 x7_1) = 0
      ·
       rw [if_pos c5] at H
       have c5b0 : ((rd l0 x7_1) == 0) = true := beq_iff_eq.mpr c5
       have c5b1 : ((rd l0 x7_1) != 0) = false := bne_eq_false_iff_eq.mpr c5
       clear c5
       have H' := zK H
       clear H
       have p239 : 0 ≤ (x7_1 : Int) := zX zq2
       have q239 : x7_1 < (l0.length : Int) := zX zq2
       obtain ⟨ad239, e239, hx239_0⟩ := Kd.at_int HR0.out x7_1 p239 q239
       cases e239
       replace p239 := eq_true p239
       replace q239 := eq_true q239
       go_wp2
       go_roundg k1
       case measure => have := HK1.out; omega
       case rel => exact ⟨(wrap64 (x7_1 + 1)), zq5, H', ⟨by have := HK1.out; omega⟩, by repeat (first | exact Drawn0.refl _ | apply Drawn0.step)⟩
      rw [if_neg c5] at H
      have c5b0 : ((rd l0 x7_1) == 0) = false := beq_eq_false_iff_ne.mpr c5
      have c5b1 : ((rd l0 x7_1) != 0) = true := bne_iff_ne.mpr c5
      obtain rfl := Option.some.inj H
      have p239 : 0 ≤ (x7_1 : Int) := zX zq2
      have q239 : x7_1 < (l0.length : Int) := zX zq2
      obtain ⟨ad239, e239, hx239_0⟩ := Kd.at_int HR0.out x7_1 p239 q239
      cases e239
      replace p239 := eq_true p239
      replace q239 := eq_true q239
      go_wp2
      go_ret
      exact ⟨zq5, zq8⟩
     rw [if_neg c4] at H
     exact absurd H zq12
    rw [if_neg c3] at H
    exact absurd H zq12
   rw [if_neg c2] at H
   have c2b0 : decide (x7_1 < (l0.length : Int)) = false := decide_eq_false c2
   clear c2
   obtain rfl := Option.some.inj H
   go_wp2
   go_ret
   exact ⟨zq5, zq8⟩
def impl_codeIf.f (a0 : Bool) (a1 : Int) : Option (Int) := if a0 = true then (some a1) else (some 0)
set_option maxHeartbeats 8000000 in
set_option maxRecDepth 100000 in
theorem impl_codeIf.calls (a0 : Bool) (a1 : Int) (r : Int) (w : World) (h : impl_codeIf.f a0 a1 = some r) :
  Calls Tryz.prog 81 #[.bool a0, .int .i64 a1] w fun e w' => e = .returned (.int .i64 r) ∧ Drawn0 w w' := by
 have H : (if a0 = true then (some a1) else (some 0)) = some r := h
 clear h
 by_cases c3 : a0 = true
 ·
  subst c3
  have H1 : (some a1) = some r := by rw [if_pos rfl] at H; exact H
  clear H
  have H := H1
  clear H1
  obtain rfl := Option.some.inj H
  go_enter Tryz.func81, Tryz.ntmps81
  go_wp2
  go_ret
  exact ⟨zq5, zq8⟩
 replace c3 := Bool.eq_false_iff.mpr c3
 subst c3
 have H1 : (some 0) = some r := by rw [if_neg (show ¬ (false = true) by decide)] at H; exact H
 clear H
 have H := H1
 clear H1
 obtain rfl := Option.some.inj H
 go_enter Tryz.func81, Tryz.ntmps81
 go_wp2
 go_ret
 exact ⟨zq5, zq8⟩
def impl_within.f (a0 : Int) (a1 : Int) (a2 : Int) : Option (Bool) := if a0 ≥ a1 then (some (decide (a0 ≤ a2))) else (some false)
set_option maxHeartbeats 8000000 in
set_option maxRecDepth 100000 in
theorem impl_within.calls (a0 : Int) (a1 : Int) (a2 : Int) (r : Bool) (w : World) (h : impl_within.f a0 a1 a2 = some r) :
  Calls Tryz.prog 117 #[.int .i64 a0, .int .i64 a1, .int .i64 a2] w fun e w' => e = .returned (.bool r) ∧ Drawn0 w w' := by
 have H : (if a0 ≥ a1 then (some (decide (a0 ≤ a2))) else (some false)) = some r := h
 clear h
 by_cases c4 : a0 ≥ a1
 ·
  rw [if_pos c4] at H
  have c4b0 : decide (a1 ≤ a0) = true := decide_eq_true c4
  clear c4
  obtain rfl := Option.some.inj H
  go_enter Tryz.func117, Tryz.ntmps117
  go_wp2
  go_ret
  exact ⟨zq5, zq8⟩
 rw [if_neg c4] at H
 have c4b0 : decide (a1 ≤ a0) = false := decide_eq_false c4
 clear c4
 obtain rfl := Option.some.inj H
 go_enter Tryz.func117, Tryz.ntmps117
 go_wp2
 go_ret
 exact ⟨zq5, zq8⟩
def slices_Index_string_string.l0 : Nat → List ByteArray → ByteArray → Int → Int → Option (Int)
 | 0, _, _, _, _ => none
 | k + 1, x0, x1, x7, x8 => if x8 < x7 then (if 0 ≤ x8 then (if x8 < (x0.length : Int) then (if x1.toList = (rdOf ByteArray.empty x0 x8).toList then (some x8) else (slices_Index_string_string.l0 k x0 x1 x7 (wrap64 (x8 + 1)))) else (none)) else (none)) else (some (-1))
def slices_Index_string_string.f (k : Nat) (l0 : List ByteArray) (a1 : ByteArray) : Option (Int) := slices_Index_string_string.l0 k l0 a1 (l0.length : Int) 0
theorem slices_Index_string_string.mono_l : ∀ k, (∀ y0 y1 y2 y3, LeO (slices_Index_string_string.l0 k y0 y1 y2 y3) (slices_Index_string_string.l0 (k + 1) y0 y1 y2 y3))
 | 0 => fun _ _ _ _ r h => by simp [slices_Index_string_string.l0] at h
 | k + 1 => by
  have ih0 := slices_Index_string_string.mono_l k
  intro y0 y1 y2 y3
  unfold slices_Index_string_string.l0
  repeat' first
  | (with_reducible exact ih0 _ _ _ _)
  | (with_reducible exact LeO.refl _)
  | (with_reducible exact LeO.none _)
  | (with_reducible refine LeO.ite ?_ ?_)
  | (with_reducible refine LeO.bind ?_ (fun _ => ?_))
  | exact ih0 _ _ _ _
  | exact LeO.none _
  | refine LeO.ite ?_ ?_
  | refine LeO.bind ?_ (fun _ => ?_)
theorem slices_Index_string_string.mono : ∀ a0 a1 k, LeO (slices_Index_string_string.f k a0 a1) (slices_Index_string_string.f (k + 1) a0 a1) := by
 intro a0 a1 k
 have ih0 := slices_Index_string_string.mono_l k
 unfold slices_Index_string_string.f
 repeat' first
   | (with_reducible exact ih0 _ _ _ _)
   | (with_reducible exact LeO.refl _)
   | (with_reducible exact LeO.none _)
   | (with_reducible refine LeO.ite ?_ ?_)
   | (with_reducible refine LeO.bind ?_ (fun _ => ?_))
   | exact ih0 _ _ _ _
   | exact LeO.none _
   | refine LeO.ite ?_ ?_
   | refine LeO.bind ?_ (fun _ => ?_)
set_option maxHeartbeats 8000000 in
set_option maxRecDepth 100000 in
theorem slices_Index_string_string.calls (k : Nat) (A0 : Option Addr) (c0 : Nat) (l0 : List ByteArray) (a1 : ByteArray) (r : Int) (w : World) (hr0 : Kd.C Kd.string w A0 l0.length l0) (hc0 : l0.length ≤ c0) (h : slices_Index_string_string.f k l0 a1 = some r) :
  Calls Tryz.prog 65 #[.slice A0 l0.length c0, .string a1] w fun e w' => e = .returned (.int .i64 r) ∧ Drawn0 w w' := by
 have HR0 := zK hr0
 have HC0 := zK hc0
 clear hr0 hc0
 have H : (slices_Index_string_string.l0 k l0 a1 (l0.length : Int) 0) = some r := h
 clear h
 have H' := zK H
 clear H
 go_enter Tryz.func65, Tryz.ntmps65
 go_wp2
 go_loopg [8] k (fun kq v8 w' => ∃ (x8_1 : Int), v8 = .int .i64 x8_1 ∧ Aside0 (slices_Index_string_string.l0 kq l0 a1 (l0.length : Int) x8_1 = some r) ∧ Aside0 (kq ≤ k) ∧ Drawn0 w w')
 case atStart => exact ⟨(0), zq5, H', ⟨Nat.le_refl _⟩, by repeat (first | exact Drawn0.refl _ | apply Drawn0.step)⟩
 case round =>
  clear H'
  try clear p2
  obtain ⟨x8_1, rfl, HA, HK1, ⟨m1, rfl⟩⟩ := hrel
  cases gk with
  | zero => exact absurd HA.out (by simp [slices_Index_string_string.l0])
  | succ k1 =>
   have H := HA.out
   clear HA
   simp only [slices_Index_string_string.l0] at H
   by_cases c3 : x8_1 < (l0.length : Int)
   ·
    rw [if_pos c3] at H
    have c3b0 : decide (x8_1 < (l0.length : Int)) = true := decide_eq_true c3
    clear c3
    by_cases c4 : 0 ≤ x8_1
    ·
     rw [if_pos c4] at H
     have c4b0 : decide (0 ≤ x8_1) = true := decide_eq_true c4
     clear c4
     by_cases c5 : x8_1 < (l0.length : Int)
     ·
      rw [if_pos c5] at H
      have c5b0 : decide (x8_1 < (l0.length : Int)) = true := decide_eq_true c5
      clear c5
      by_cases c6 : a1.toList = (rdOf ByteArray.empty l0 x8_1).toList
      ·
       rw [if_pos c6] at H
       have c6b0 : (a1.toList == (rdOf ByteArray.empty l0 x8_1).toList) = true := beq_iff_eq.mpr c6
       have c6b1 : (a1.toList != (rdOf ByteArray.empty l0 x8_1).toList) = false := bne_eq_false_iff_eq.mpr c6
       clear c6
       obtain rfl := Option.some.inj H
       have p303 : 0 ≤ (x8_1 : Int) := zX zq2
       have q303 : x8_1 < (l0.length : Int) := zX zq2
       obtain ⟨ad303, e303, hx303_0⟩ := Kd.at_string HR0.out x8_1 p303 q303
       cases e303
       replace p303 := eq_true p303
       replace q303 := eq_true q303
       go_wp2
       go_ret
       exact ⟨zq5, zq8⟩
      rw [if_neg c6] at H
      have c6b0 : (a1.toList == (rdOf ByteArray.empty l0 x8_1).toList) = false := beq_eq_false_iff_ne.mpr c6
      have c6b1 : (a1.toList != (rdOf ByteArray.empty l0 x8_1).toList) = true := bne_iff_ne.mpr c6
      have H' := zK H
      clear H
      have p303 : 0 ≤ (x8_1 : Int) := zX zq2
      have q303 : x8_1 < (l0.length : Int) := zX zq2
      obtain ⟨ad303, e303, hx303_0⟩ := Kd.at_string HR0.out x8_1 p303 q303
      cases e303
      replace p303 := eq_true p303
      replace q303 := eq_true q303
      go_wp2
      go_roundg k1
      case measure => have := HK1.out; omega
      case rel => exact ⟨(wrap64 (x8_1 + 1)), zq5, H', ⟨by have := HK1.out; omega⟩, by repeat (first | exact Drawn0.refl _ | apply Drawn0.step)⟩
     rw [if_neg c5] at H
     exact absurd H zq12
    rw [if_neg c4] at H
    exact absurd H zq12
   rw [if_neg c3] at H
   have c3b0 : decide (x8_1 < (l0.length : Int)) = false := decide_eq_false c3
   clear c3
   obtain rfl := Option.some.inj H
   go_wp2
   go_ret
   exact ⟨zq5, zq8⟩
def slices_Contains_string_string.f (k : Nat) (l0 : List ByteArray) (a1 : ByteArray) : Option (Bool) := (slices_Index_string_string.f k l0 a1).bind fun t304 => (some (decide (t304 ≥ 0)))
theorem slices_Contains_string_string.mono : ∀ a0 a1 k, LeO (slices_Contains_string_string.f k a0 a1) (slices_Contains_string_string.f (k + 1) a0 a1) := by
 intro a0 a1 k
 unfold slices_Contains_string_string.f
 repeat' first
   | (with_reducible exact slices_Index_string_string.mono _ _ _)
   | (with_reducible exact LeO.refl _)
   | (with_reducible exact LeO.none _)
   | (with_reducible refine LeO.ite ?_ ?_)
   | (with_reducible refine LeO.bind ?_ (fun _ => ?_))
   | exact slices_Index_string_string.mono _ _ _
   | exact LeO.none _
   | refine LeO.ite ?_ ?_
   | refine LeO.bind ?_ (fun _ => ?_)
set_option maxHeartbeats 8000000 in
set_option maxRecDepth 100000 in
theorem slices_Contains_string_string.calls (k : Nat) (A0 : Option Addr) (c0 : Nat) (l0 : List ByteArray) (a1 : ByteArray) (r : Bool) (w : World) (hr0 : Kd.C Kd.string w A0 l0.length l0) (hc0 : l0.length ≤ c0) (h : slices_Contains_string_string.f k l0 a1 = some r) :
  Calls Tryz.prog 43 #[.slice A0 l0.length c0, .string a1] w fun e w' => e = .returned (.bool r) ∧ Drawn0 w w' := by
 have HR0 := zK hr0
 have HC0 := zK hc0
 clear hr0 hc0
 have H : ((slices_Index_string_string.f k l0 a1).bind fun t304 => (some (decide (t304 ≥ 0)))) = some r := h
 clear h
 replace H := Option.bind_eq_some_iff.mp H
 obtain ⟨t304, A30, H⟩ := H
 replace H : (some (decide (t304 ≥ 0))) = some r := H
 have A3 := zK A30
 clear A30
 obtain rfl := Option.some.inj H
 go_enter Tryz.func43, Tryz.ntmps43
 go_wp2_with (first | ((with_reducible refine gate_callee (f := 65) rfl ?_); refine goesL_ (some 7) rfl rfl Tryz.func65 zq6 rfl #[.slice A0 l0.length c0, .string a1] rfl zq1 ?_; (with_reducible refine (slices_Index_string_string.calls k _ _ l0 a1 t304 _ ?side1 ?side2 A3.out).mono ?_); (case side1 => repeat (first | exact HR0.out | (with_reducible refine Kd.C_alloc ?_ _) | (with_reducible refine Kd.C_drewN ?_ _) | (with_reducible refine Kd.C_drew ?_))); (case side2 => exact HC0.out); rintro e w' ⟨rfl, ⟨nd, rfl⟩⟩; refine ⟨_, rfl, ?_⟩))
 go_ret
 exact ⟨zq5, zq8⟩
theorem slices_Contains_string_string.callsN (k : Nat) (A0 : Option Addr) (c0 : Nat) (l0 : List ByteArray) (a1 : ByteArray) (r : Bool) (w : World) (hr0 : Kd.C Kd.string w A0 l0.length l0) (hc0 : l0.length ≤ c0) {n : Nat} (h : slices_Contains_string_string.f k l0 a1 = some r) (hn : l0.length = n := by first | rfl | (simp only [List.length_take, List.length_drop]; simp only [decide_eq_true_eq, decide_eq_false_iff_not, eq_iff_iff, iff_true] at *; omega)) :
  Calls Tryz.prog 43 #[.slice A0 n c0, .string a1] w fun e w' => e = .returned (.bool r) ∧ Drawn0 w w' := by
 subst hn
 exact slices_Contains_string_string.calls k A0 c0 l0 a1 r w hr0 hc0 h
def impl_isNote.l0 : Nat → ByteArray → Int → Int → Option (Bool)
 | 0, _, _, _ => none
 | k + 1, x0, x5, x6 => if x6 < x5 then (if 0 ≤ x6 then (if x6 < (x0.size : Int) then (if (bt x0 x6) < 32 then (some false) else (if (bt x0 x6) > 126 then (some false) else (impl_isNote.l0 k x0 x5 (wrap64 (x6 + 1))))) else (none)) else (none)) else (some (decide ((x0.size : Int) ≤ 60)))
def impl_isNote.f (k : Nat) (a0 : ByteArray) : Option (Bool) := impl_isNote.l0 k a0 (a0.size : Int) 0
theorem impl_isNote.mono_l : ∀ k, (∀ y0 y1 y2, LeO (impl_isNote.l0 k y0 y1 y2) (impl_isNote.l0 (k + 1) y0 y1 y2))
 | 0 => fun _ _ _ r h => by simp [impl_isNote.l0] at h
 | k + 1 => by
  have ih0 := impl_isNote.mono_l k
  intro y0 y1 y2
  unfold impl_isNote.l0
  repeat' first
  | (with_reducible exact ih0 _ _ _)
  | (with_reducible exact LeO.refl _)
  | (with_reducible exact LeO.none _)
  | (with_reducible refine LeO.ite ?_ ?_)
  | (with_reducible refine LeO.bind ?_ (fun _ => ?_))
  | exact ih0 _ _ _
  | exact LeO.none _
  | refine LeO.ite ?_ ?_
  | refine LeO.bind ?_ (fun _ => ?_)
theorem impl_isNote.mono : ∀ a0 k, LeO (impl_isNote.f k a0) (impl_isNote.f (k + 1) a0) := by
 intro a0 k
 have ih0 := impl_isNote.mono_l k
 unfold impl_isNote.f
 repeat' first
   | (with_reducible exact ih0 _ _ _)
   | (with_reducible exact LeO.refl _)
   | (with_reducible exact LeO.none _)
   | (with_reducible refine LeO.ite ?_ ?_)
   | (with_reducible refine LeO.bind ?_ (fun _ => ?_))
   | exact ih0 _ _ _
   | exact LeO.none _
   | refine LeO.ite ?_ ?_
   | refine LeO.bind ?_ (fun _ => ?_)
set_option maxHeartbeats 8000000 in
set_option maxRecDepth 100000 in
theorem impl_isNote.calls (k : Nat) (a0 : ByteArray) (r : Bool) (w : World) (h : impl_isNote.f k a0 = some r) :
  Calls Tryz.prog 132 #[.string a0] w fun e w' => e = .returned (.bool r) ∧ Drawn0 w w' := by
 have H : (impl_isNote.l0 k a0 (a0.size : Int) 0) = some r := h
 clear h
 have H' := zK H
 clear H
 go_enter Tryz.func132, Tryz.ntmps132
 go_wp2
 go_loopg [6] k (fun kq v6 w' => ∃ (x6_1 : Int), v6 = .int .i64 x6_1 ∧ Aside0 (impl_isNote.l0 kq a0 (a0.size : Int) x6_1 = some r) ∧ Aside0 (kq ≤ k) ∧ Drawn0 w w')
 case atStart => exact ⟨(0), zq5, H', ⟨Nat.le_refl _⟩, by repeat (first | exact Drawn0.refl _ | apply Drawn0.step)⟩
 case round =>
  clear H'
  try clear c1
  obtain ⟨x6_1, rfl, HA, HK1, ⟨m1, rfl⟩⟩ := hrel
  cases gk with
  | zero => exact absurd HA.out (by simp [impl_isNote.l0])
  | succ k1 =>
   have H := HA.out
   clear HA
   simp only [impl_isNote.l0] at H
   by_cases c2 : x6_1 < (a0.size : Int)
   ·
    rw [if_pos c2] at H
    have c2b0 : decide (x6_1 < (a0.size : Int)) = true := decide_eq_true c2
    clear c2
    by_cases c3 : 0 ≤ x6_1
    ·
     rw [if_pos c3] at H
     have c3b0 : decide (0 ≤ x6_1) = true := decide_eq_true c3
     clear c3
     by_cases c4 : x6_1 < (a0.size : Int)
     ·
      rw [if_pos c4] at H
      have c4b0 : decide (x6_1 < (a0.size : Int)) = true := decide_eq_true c4
      clear c4
      by_cases c6 : (bt a0 x6_1) < 32
      ·
       rw [if_pos c6] at H
       have c6b0 : decide ((bt a0 x6_1) < 32) = true := decide_eq_true c6
       clear c6
       obtain rfl := Option.some.inj H
       have p5 : 0 ≤ (x6_1 : Int) := zX zq2
       have q5 : x6_1 < (a0.size : Int) := zX zq2
       have hx5 := bt_at a0 x6_1
       replace p5 := eq_true p5
       replace q5 := eq_true q5
       go_wp2
       go_ret
       exact ⟨zq5, zq8⟩
      rw [if_neg c6] at H
      have c6b0 : decide ((bt a0 x6_1) < 32) = false := decide_eq_false c6
      clear c6
      by_cases c8 : (bt a0 x6_1) > 126
      ·
       rw [if_pos c8] at H
       have c8b0 : decide (126 < (bt a0 x6_1)) = true := decide_eq_true c8
       clear c8
       obtain rfl := Option.some.inj H
       have p5 : 0 ≤ (x6_1 : Int) := zX zq2
       have q5 : x6_1 < (a0.size : Int) := zX zq2
       have hx5 := bt_at a0 x6_1
       replace p5 := eq_true p5
       replace q5 := eq_true q5
       have p7 : 0 ≤ (x6_1 : Int) := zX zq2
       have q7 : x6_1 < (a0.size : Int) := zX zq2
       have hx7 := bt_at a0 x6_1
       replace p7 := eq_true p7
       replace q7 := eq_true q7
       go_wp2
       go_ret
       exact ⟨zq5, zq8⟩
      rw [if_neg c8] at H
      have c8b0 : decide (126 < (bt a0 x6_1)) = false := decide_eq_false c8
      clear c8
      have H' := zK H
      clear H
      have p5 : 0 ≤ (x6_1 : Int) := zX zq2
      have q5 : x6_1 < (a0.size : Int) := zX zq2
      have hx5 := bt_at a0 x6_1
      replace p5 := eq_true p5
      replace q5 := eq_true q5
      have p7 : 0 ≤ (x6_1 : Int) := zX zq2
      have q7 : x6_1 < (a0.size : Int) := zX zq2
      have hx7 := bt_at a0 x6_1
      replace p7 := eq_true p7
      replace q7 := eq_true q7
      go_wp2
      go_roundg k1
      case measure => have := HK1.out; omega
      case rel => exact ⟨(wrap64 (x6_1 + 1)), zq5, H', ⟨by have := HK1.out; omega⟩, by repeat (first | exact Drawn0.refl _ | apply Drawn0.step)⟩
     rw [if_neg c4] at H
     exact absurd H zq12
    rw [if_neg c3] at H
    exact absurd H zq12
   rw [if_neg c2] at H
   have c2b0 : decide (x6_1 < (a0.size : Int)) = false := decide_eq_false c2
   clear c2
   obtain rfl := Option.some.inj H
   go_wp2
   go_ret
   exact ⟨zq5, zq8⟩
def stringslite_HasSuffix.f (a0 : ByteArray) (a1 : ByteArray) : Option (Bool) := if (a0.size : Int) ≥ (a1.size : Int) then (if 0 ≤ (wrap64 ((a0.size : Int) - (a1.size : Int))) then (if (wrap64 ((a0.size : Int) - (a1.size : Int))) ≤ (a0.size : Int) then (some ((a0.extract ((wrap64 ((a0.size : Int) - (a1.size : Int))) : Int).toNat a0.size).toList == a1.toList)) else (none)) else (none)) else (some false)
set_option maxHeartbeats 8000000 in
set_option maxRecDepth 100000 in
theorem stringslite_HasSuffix.calls (a0 : ByteArray) (a1 : ByteArray) (r : Bool) (w : World) (h : stringslite_HasSuffix.f a0 a1 = some r) :
  Calls Tryz.prog 158 #[.string a0, .string a1] w fun e w' => e = .returned (.bool r) ∧ Drawn0 w w' := by
 have H : (if (a0.size : Int) ≥ (a1.size : Int) then (if 0 ≤ (wrap64 ((a0.size : Int) - (a1.size : Int))) then (if (wrap64 ((a0.size : Int) - (a1.size : Int))) ≤ (a0.size : Int) then (some ((a0.extract ((wrap64 ((a0.size : Int) - (a1.size : Int))) : Int).toNat a0.size).toList == a1.toList)) else (none)) else (none)) else (some false)) = some r := h
 clear h
 by_cases c3 : (a0.size : Int) ≥ (a1.size : Int)
 ·
  rw [if_pos c3] at H
  have c3b0 : decide ((a1.size : Int) ≤ (a0.size : Int)) = true := decide_eq_true c3
  have c3b1 : decide (a1.size ≤ a0.size) = true := decide_eq_true (Int.ofNat_le.mp c3)
  clear c3
  obtain ⟨ji4, hji4⟩ : ∃ j_ : Int, (wrap64 ((a0.size : Int) - (a1.size : Int))) = j_ := ⟨_, rfl⟩
  replace H : (if 0 ≤ (ji4) then (if (ji4) ≤ (a0.size : Int) then (some ((a0.extract ((ji4) : Int).toNat a0.size).toList == a1.toList)) else (none)) else (none)) = some r := by first | (rw [hji4] at H; exact H) | (simp only [hji4] at H ⊢; exact H)
  have hji4w : (IntKind.i64.wrap ((a0.size : Int) - (a1.size : Int))) = ji4 := (i64_w _).trans hji4
  by_cases c5 : 0 ≤ (ji4)
  ·
   rw [if_pos c5] at H
   have c5b0 := eq_true c5
   have c5b1 : decide (0 ≤ (ji4)) = true := decide_eq_true c5
   clear c5
   by_cases c6 : (ji4) ≤ (a0.size : Int)
   ·
    rw [if_pos c6] at H
    have c6b0 := eq_true c6
    have c6b1 : decide ((ji4) ≤ (a0.size : Int)) = true := decide_eq_true c6
    clear c6
    obtain rfl := Option.some.inj H
    go_enter Tryz.func158, Tryz.ntmps158
    go_wp2
    go_ret
    exact ⟨zq27, zq8⟩
   rw [if_neg c6] at H
   exact absurd H zq12
  rw [if_neg c5] at H
  exact absurd H zq12
 rw [if_neg c3] at H
 have c3b0 : decide ((a1.size : Int) ≤ (a0.size : Int)) = false := decide_eq_false c3
 have c3b1 : decide (a1.size ≤ a0.size) = false := decide_eq_false (fun h => c3 (Int.ofNat_le.mpr h))
 clear c3
 obtain rfl := Option.some.inj H
 go_enter Tryz.func158, Tryz.ntmps158
 go_wp2
 go_ret
 exact ⟨zq5, zq8⟩
def stringslite_TrimSuffix.f (a0 : ByteArray) (a1 : ByteArray) : Option (ByteArray) := (stringslite_HasSuffix.f a0 a1).bind fun t286 => (if t286 = true then (if 0 ≤ (wrap64 ((a0.size : Int) - (a1.size : Int))) then (if (wrap64 ((a0.size : Int) - (a1.size : Int))) ≤ (a0.size : Int) then (some (a0.extract 0 ((wrap64 ((a0.size : Int) - (a1.size : Int))) : Int).toNat)) else (none)) else (none)) else (some a0))
set_option maxHeartbeats 8000000 in
set_option maxRecDepth 100000 in
theorem stringslite_TrimSuffix.calls (a0 : ByteArray) (a1 : ByteArray) (r : ByteArray) (w : World) (h : stringslite_TrimSuffix.f a0 a1 = some r) :
  Calls Tryz.prog 128 #[.string a0, .string a1] w fun e w' => e = .returned (.string r) ∧ Drawn0 w w' := by
 have H : ((stringslite_HasSuffix.f a0 a1).bind fun t286 => (if t286 = true then (if 0 ≤ (wrap64 ((a0.size : Int) - (a1.size : Int))) then (if (wrap64 ((a0.size : Int) - (a1.size : Int))) ≤ (a0.size : Int) then (some (a0.extract 0 ((wrap64 ((a0.size : Int) - (a1.size : Int))) : Int).toNat)) else (none)) else (none)) else (some a0))) = some r := h
 clear h
 replace H := Option.bind_eq_some_iff.mp H
 obtain ⟨t286, A30, H⟩ := H
 replace H : (if t286 = true then (if 0 ≤ (wrap64 ((a0.size : Int) - (a1.size : Int))) then (if (wrap64 ((a0.size : Int) - (a1.size : Int))) ≤ (a0.size : Int) then (some (a0.extract 0 ((wrap64 ((a0.size : Int) - (a1.size : Int))) : Int).toNat)) else (none)) else (none)) else (some a0)) = some r := H
 have A3 := zK A30
 clear A30
 by_cases c4 : t286 = true
 ·
  subst c4
  have H1 : (if 0 ≤ (wrap64 ((a0.size : Int) - (a1.size : Int))) then (if (wrap64 ((a0.size : Int) - (a1.size : Int))) ≤ (a0.size : Int) then (some (a0.extract 0 ((wrap64 ((a0.size : Int) - (a1.size : Int))) : Int).toNat)) else (none)) else (none)) = some r := by rw [if_pos rfl] at H; exact H
  clear H
  have H := H1
  clear H1
  obtain ⟨ji5, hji5⟩ : ∃ j_ : Int, (wrap64 ((a0.size : Int) - (a1.size : Int))) = j_ := ⟨_, rfl⟩
  replace H : (if 0 ≤ (ji5) then (if (ji5) ≤ (a0.size : Int) then (some (a0.extract 0 ((ji5) : Int).toNat)) else (none)) else (none)) = some r := by first | (rw [hji5] at H; exact H) | (simp only [hji5] at H ⊢; exact H)
  (try rw [hji5] at A3)
  have hji5w : (IntKind.i64.wrap ((a0.size : Int) - (a1.size : Int))) = ji5 := (i64_w _).trans hji5
  by_cases c6 : 0 ≤ (ji5)
  ·
   rw [if_pos c6] at H
   have c6b0 := eq_true c6
   have c6b1 : decide (0 ≤ (ji5)) = true := decide_eq_true c6
   clear c6
   by_cases c7 : (ji5) ≤ (a0.size : Int)
   ·
    rw [if_pos c7] at H
    have c7b0 := eq_true c7
    have c7b1 : decide ((ji5) ≤ (a0.size : Int)) = true := decide_eq_true c7
    clear c7
    obtain rfl := Option.some.inj H
    go_enter Tryz.func128, Tryz.ntmps128
    go_wp2_with (first | ((with_reducible refine gate_callee (f := 158) rfl ?_); refine goesL_ (some 7) rfl rfl Tryz.func158 zq6 rfl #[.string a0, .string a1] rfl zq1 ?_; (with_reducible refine (stringslite_HasSuffix.calls a0 a1 true _ A3.out).mono ?_); rintro e w' ⟨rfl, ⟨nd, rfl⟩⟩; refine ⟨_, rfl, ?_⟩))
    go_ret
    exact ⟨(by first | rfl | (simp; done) | (simp only [← hji5] <;> (first | rfl | simp)) | (simp [*]; done)), zq8⟩
   rw [if_neg c7] at H
   exact absurd H zq12
  rw [if_neg c6] at H
  exact absurd H zq12
 replace c4 := Bool.eq_false_iff.mpr c4
 subst c4
 have H1 : (some a0) = some r := by rw [if_neg (show ¬ (false = true) by decide)] at H; exact H
 clear H
 have H := H1
 clear H1
 obtain rfl := Option.some.inj H
 go_enter Tryz.func128, Tryz.ntmps128
 go_wp2_with (first | ((with_reducible refine gate_callee (f := 158) rfl ?_); refine goesL_ (some 7) rfl rfl Tryz.func158 zq6 rfl #[.string a0, .string a1] rfl zq1 ?_; (with_reducible refine (stringslite_HasSuffix.calls a0 a1 false _ A3.out).mono ?_); rintro e w' ⟨rfl, ⟨nd, rfl⟩⟩; refine ⟨_, rfl, ?_⟩))
 go_ret
 exact ⟨zq5, zq8⟩
def strings_TrimSuffix.f (a0 : ByteArray) (a1 : ByteArray) : Option (ByteArray) := (stringslite_TrimSuffix.f a0 a1).bind fun t287 => (some t287)
set_option maxHeartbeats 8000000 in
set_option maxRecDepth 100000 in
theorem strings_TrimSuffix.calls (a0 : ByteArray) (a1 : ByteArray) (r : ByteArray) (w : World) (h : strings_TrimSuffix.f a0 a1 = some r) :
  Calls Tryz.prog 95 #[.string a0, .string a1] w fun e w' => e = .returned (.string r) ∧ Drawn0 w w' := by
 have H : ((stringslite_TrimSuffix.f a0 a1).bind fun t287 => (some t287)) = some r := h
 clear h
 replace H := Option.bind_eq_some_iff.mp H
 obtain ⟨t287, A30, H⟩ := H
 replace H : (some t287) = some r := H
 have A3 := zK A30
 clear A30
 obtain rfl := Option.some.inj H
 go_enter Tryz.func95, Tryz.ntmps95
 go_wp2_with (first | ((with_reducible refine gate_callee (f := 128) rfl ?_); refine goesL_ (some 7) rfl rfl Tryz.func128 zq6 rfl #[.string a0, .string a1] rfl zq1 ?_; (with_reducible refine (stringslite_TrimSuffix.calls a0 a1 t287 _ A3.out).mono ?_); rintro e w' ⟨rfl, ⟨nd, rfl⟩⟩; refine ⟨_, rfl, ?_⟩))
 go_ret
 exact ⟨zq5, zq8⟩
end Go.Proofs.YtpnoghcdfbmpoaaGreatDoor.PX

namespace Go.Proofs.YtpnoghcdfbmpoaaGreatDoorX
open Go Go.RowKit Go.Proofs.YtpnoghcdfbmpoaaGreatDoorW.PrintWords Go.Proofs.YtpnoghcdfbmpoaaGreatDoor.PX
end Go.Proofs.YtpnoghcdfbmpoaaGreatDoorX

namespace Go.Proofs.YtpnoghcdfbmpoaaGreatDoor.PX
open Go.RowKit Go.Proofs.YtpnoghcdfbmpoaaGreatDoorW.PrintWords Go.Proofs.YtpnoghcdfbmpoaaGreatDoorW.PrintLast Go.Proofs.YtpnoghcdfbmpoaaGreatDoorW.PrintMore
attribute [local go_sem] max2_int min2_int max_two min_two max_three min_three max_four min_four   -- for this text's walks alone
set_option linter.unusedVariables false
set_option linter.unusedSimpArgs false
end Go.Proofs.YtpnoghcdfbmpoaaGreatDoor.PX

namespace Go.Proofs.YtpnoghcdfbmpoaaGreatDoorX
open Go Go.RowKit Go.Proofs.YtpnoghcdfbmpoaaGreatDoorW.PrintWords Go.Proofs.YtpnoghcdfbmpoaaGreatDoor.PX
set_option linter.unusedVariables false
abbrev IObj := S50
theorem eqObject_tells (x y : IObj) : ∃ b, laws_eqObject.f x.f0 x.f1 x.f2 y.f0 y.f1 y.f2 = some b ∧ (b = true ↔ x = y) := by
 obtain ⟨a, b, c⟩ := x
 obtain ⟨a', b', c'⟩ := y
 unfold laws_eqObject.f
 simp only [toList_iff]
 by_cases h1 : a = a'
 · rw [if_pos h1]
   by_cases h2 : b = b'
   · rw [if_pos h2]
     by_cases h3 : c = c'
     · rw [if_pos h3]; exact ⟨_, rfl, by simp [h1, h2, h3]⟩
     · rw [if_neg h3]; exact ⟨_, rfl, by simp [h3]⟩
   · rw [if_neg h2]; exact ⟨_, rfl, by simp [h2]⟩
 · rw [if_neg h1]; exact ⟨_, rfl, by simp [h1]⟩
theorem eqObjectS_same (l : List IObj) (hl : l.length ≤ 1048576) (k : Nat) (hk : l.length < k) : laws_eqObjectS.f k l l = some true := by
 unfold laws_eqObjectS.f
 rw [if_pos rfl]
 exact eq_all (F := laws_eqObjectS.l0) (E := fun x y => laws_eqObject.f x.f0 x.f1 x.f2 y.f0 y.f1 y.f2) z50 eqObject_tells (fun k xs ys i => by rw [laws_eqObjectS.l0]; rfl) l zq7 k hk
abbrev LObj := S48
def objOk (x : LObj) : Prop := x.f0.size ≤ 140737488351232 ∧ x.f2.size ≤ 140737488351232
def objConv (x : LObj) : IObj := ⟨x.f0, x.f1, x.f2⟩
def objSmall (x : LObj) : Prop := x.f0.size ≤ 1048576 ∧ x.f2.size ≤ 1048576
theorem szObject_tells (x : LObj) (hx : objOk x) (left : Int) (h0 : 0 ≤ left) (h1 : left ≤ 1048576) : ∃ r, laws_szObject.f x.f0 x.f1 x.f2 left = some r ∧ r ≤ left ∧ (0 ≤ r → objSmall x) := by
 obtain ⟨a, b⟩ := hx
 unfold laws_szObject.f objSmall
 rw [wrap_in (i := left - _) zq7 zq7]
 by_cases c : left - (x.f0.size : Int) < 0
 · rw [if_pos c]
   exact ⟨_, rfl, by omega, fun z => absurd z zq7⟩
 · rw [if_neg c, wrap_in zq7 zq7]
   split
   · exact ⟨_, rfl, by omega, fun z => absurd z zq7⟩
   · exact ⟨_, rfl, by omega, fun z => by omega⟩
theorem szObjectS_tells (l : List LObj) (hl : l.length ≤ 140737488351232) (ho : ∀ x ∈ l, objOk x) (left : Int) (h0 : 0 ≤ left) (h1 : left ≤ 1048576) (k : Nat) (hk : l.length < k) :
 ∃ r, laws_szObjectS.f k l left = some r ∧ r ≤ left ∧ (0 ≤ r → l.length ≤ 1048576 ∧ ∀ x ∈ l, objSmall x) := by
 unfold laws_szObjectS.f
 rw [wrap_in zq7 zq7]
 split
 · exact ⟨_, rfl, by omega, fun z => absurd z zq7⟩
 · obtain ⟨r, hr, hle, hq⟩ := sz_all (F := laws_szObjectS.l0) (Z := fun x left => laws_szObject.f x.f0 x.f1 x.f2 left) objOk objSmall z48 szObject_tells (fun k xs left i => by rw [laws_szObjectS.l0]; rfl) l hl ho (left - l.length) zq7 zq7 k hk
   exact ⟨r, hr, by omega, fun z => ⟨by omega, hq z⟩⟩
theorem toObjectS_tells (l : List LObj) (hl : l.length ≤ 1048576) (k : Nat) (hk : l.length < k) : laws_toObjectS.f k l = some (l.map objConv) := by
 unfold laws_toObjectS.f
 rw [if_pos zq7, Int.toNat_natCast, if_pos zq7]
 exact to_all (F := laws_toObjectS.l0) objConv z48 (fun k xs ys i => by rw [laws_toObjectS.l0]; rfl) l zq7 _ k hk
end Go.Proofs.YtpnoghcdfbmpoaaGreatDoorX

namespace Go.Proofs.YtpnoghcdfbmpoaaGreatDoor.PX
open Go.RowKit Go.Proofs.YtpnoghcdfbmpoaaGreatDoorW.PrintWords Go.Proofs.YtpnoghcdfbmpoaaGreatDoorW.PrintLast Go.Proofs.YtpnoghcdfbmpoaaGreatDoorW.PrintMore
attribute [local go_sem] max2_int min2_int max_two min_two max_three min_three max_four min_four   -- for this text's walks alone
set_option linter.unusedVariables false
set_option linter.unusedSimpArgs false
def spec_DigestOf.l0 : Nat → ByteArray → Int → Int → Option (Int)
 | 0, _, _, _ => none
 | k + 1, x0, x3, x4 => if x4 < (x0.size : Int) then (if 0 ≤ x4 then (spec_DigestOf.l0 k x0 (Int.tmod (wrap64 ((wrap64 (x3 * 131)) + (wrap64 (bt x0 x4)))) 65521) (wrap64 (x4 + 1))) else (none)) else (some x3)
def spec_DigestOf.f (k : Nat) (a0 : ByteArray) : Option (Int) := spec_DigestOf.l0 k a0 7 0
set_option maxHeartbeats 8000000 in
set_option maxRecDepth 100000 in
theorem spec_DigestOf.calls (k : Nat) (a0 : ByteArray) (r : Int) (w : World) (h : spec_DigestOf.f k a0 = some r) :
  Calls Tryz.prog 115 #[.string a0] w fun e w' => e = .returned (.int .i64 r) ∧ Drawn0 w w' := by
 have H : (spec_DigestOf.l0 k a0 7 0) = some r := h
 clear h
 have H' := zK H
 clear H
 go_enter Tryz.func115, Tryz.ntmps115
 go_wp2
 go_loopg [3, 4] k (fun kq v3 v4 w' => ∃ (x3_1 : Int) (x4_1 : Int), v3 = .int .i64 x3_1 ∧ v4 = .int .i64 x4_1 ∧ Aside0 (spec_DigestOf.l0 kq a0 x3_1 x4_1 = some r) ∧ Aside0 (kq ≤ k) ∧ Drawn0 w w')
 case atStart => exact ⟨(7), (0), zq5, zq5, H', ⟨Nat.le_refl _⟩, by repeat (first | exact Drawn0.refl _ | apply Drawn0.step)⟩
 case round =>
  clear H'
  try clear c1
  obtain ⟨x3_1, x4_1, rfl, rfl, HA, HK1, ⟨m1, rfl⟩⟩ := hrel
  cases gk with
  | zero => exact absurd HA.out (by simp [spec_DigestOf.l0])
  | succ k1 =>
   have H := HA.out
   clear HA
   simp only [spec_DigestOf.l0] at H
   by_cases c2 : x4_1 < (a0.size : Int)
   ·
    rw [if_pos c2] at H
    have c2b0 : decide (x4_1 < (a0.size : Int)) = true := decide_eq_true c2
    clear c2
    by_cases c3 : 0 ≤ x4_1
    ·
     rw [if_pos c3] at H
     have c3b0 : decide (0 ≤ x4_1) = true := decide_eq_true c3
     clear c3
     have H' := zK H
     clear H
     have p4 : 0 ≤ (x4_1 : Int) := zX zq2
     have q4 : x4_1 < (a0.size : Int) := zX zq2
     have hx4 := bt_at a0 x4_1
     replace p4 := eq_true p4
     replace q4 := eq_true q4
     go_wp2
     go_roundg k1
     case measure => have := HK1.out; omega
     case rel => exact ⟨(Int.tmod (wrap64 ((wrap64 (x3_1 * 131)) + (wrap64 (bt a0 x4_1)))) 65521), (wrap64 (x4_1 + 1)), zq5, zq5, H', ⟨by have := HK1.out; omega⟩, by repeat (first | exact Drawn0.refl _ | apply Drawn0.step)⟩
    rw [if_neg c3] at H
    exact absurd H zq12
   rw [if_neg c2] at H
   have c2b0 : decide (x4_1 < (a0.size : Int)) = false := decide_eq_false c2
   clear c2
   obtain rfl := Option.some.inj H
   go_wp2
   go_ret
   exact ⟨zq5, zq8⟩
def impl_DigestOf.l0 : Nat → ByteArray → Int → Int → Int → Option (Int)
 | 0, _, _, _, _ => none
 | k + 1, x0, x3, x6, x7 => if x7 < x6 then (if 0 ≤ x7 then (if x7 < (x0.size : Int) then (impl_DigestOf.l0 k x0 (Int.tmod (wrap64 ((wrap64 (x3 * 131)) + (wrap64 (bt x0 x7)))) 65521) x6 (wrap64 (x7 + 1))) else (none)) else (none)) else (some x3)
def impl_DigestOf.f (k : Nat) (a0 : ByteArray) : Option (Int) := impl_DigestOf.l0 k a0 7 (a0.size : Int) 0
set_option maxHeartbeats 8000000 in
set_option maxRecDepth 100000 in
theorem impl_DigestOf.calls (k : Nat) (a0 : ByteArray) (r : Int) (w : World) (h : impl_DigestOf.f k a0 = some r) :
  Calls Tryz.prog 84 #[.string a0] w fun e w' => e = .returned (.int .i64 r) ∧ Drawn0 w w' := by
 have H : (impl_DigestOf.l0 k a0 7 (a0.size : Int) 0) = some r := h
 clear h
 have H' := zK H
 clear H
 go_enter Tryz.func84, Tryz.ntmps84
 go_wp2
 go_loopg [3, 7] k (fun kq v3 v7 w' => ∃ (x3_1 : Int) (x7_1 : Int), v3 = .int .i64 x3_1 ∧ v7 = .int .i64 x7_1 ∧ Aside0 (impl_DigestOf.l0 kq a0 x3_1 (a0.size : Int) x7_1 = some r) ∧ Aside0 (kq ≤ k) ∧ Drawn0 w w')
 case atStart => exact ⟨(7), (0), zq5, zq5, H', ⟨Nat.le_refl _⟩, by repeat (first | exact Drawn0.refl _ | apply Drawn0.step)⟩
 case round =>
  clear H'
  obtain ⟨x3_1, x7_1, rfl, rfl, HA, HK1, ⟨m1, rfl⟩⟩ := hrel
  cases gk with
  | zero => exact absurd HA.out (by simp [impl_DigestOf.l0])
  | succ k1 =>
   have H := HA.out
   clear HA
   simp only [impl_DigestOf.l0] at H
   by_cases c2 : x7_1 < (a0.size : Int)
   ·
    rw [if_pos c2] at H
    have c2b0 : decide (x7_1 < (a0.size : Int)) = true := decide_eq_true c2
    clear c2
    by_cases c3 : 0 ≤ x7_1
    ·
     rw [if_pos c3] at H
     have c3b0 : decide (0 ≤ x7_1) = true := decide_eq_true c3
     clear c3
     by_cases c4 : x7_1 < (a0.size : Int)
     ·
      rw [if_pos c4] at H
      have c4b0 : decide (x7_1 < (a0.size : Int)) = true := decide_eq_true c4
      clear c4
      have H' := zK H
      clear H
      have p5 : 0 ≤ (x7_1 : Int) := zX zq2
      have q5 : x7_1 < (a0.size : Int) := zX zq2
      have hx5 := bt_at a0 x7_1
      replace p5 := eq_true p5
      replace q5 := eq_true q5
      go_wp2
      go_roundg k1
      case measure => have := HK1.out; omega
      case rel => exact ⟨(Int.tmod (wrap64 ((wrap64 (x3_1 * 131)) + (wrap64 (bt a0 x7_1)))) 65521), (wrap64 (x7_1 + 1)), zq5, zq5, H', ⟨by have := HK1.out; omega⟩, by repeat (first | exact Drawn0.refl _ | apply Drawn0.step)⟩
     rw [if_neg c4] at H
     exact absurd H zq12
    rw [if_neg c3] at H
    exact absurd H zq12
   rw [if_neg c2] at H
   have c2b0 : decide (x7_1 < (a0.size : Int)) = false := decide_eq_false c2
   clear c2
   obtain rfl := Option.some.inj H
   go_wp2
   go_ret
   exact ⟨zq5, zq8⟩
end Go.Proofs.YtpnoghcdfbmpoaaGreatDoor.PX

namespace Go.Proofs.YtpnoghcdfbmpoaaGreatDoorX
open Go Go.RowKit Go.Proofs.YtpnoghcdfbmpoaaGreatDoorW.PrintWords Go.Proofs.YtpnoghcdfbmpoaaGreatDoor.PX
set_option linter.unusedVariables false
def digStep (b : ByteArray) (i : Nat) (h : Int) : Sum Int Int := .inr (Int.tmod (wrap64 ((wrap64 (h * 131)) + (wrap64 (bt b (i : Int))))) 65521)
def digV (b : ByteArray) : Int := run (digStep b) (fun h => h) b.size 0 7
theorem dig_up (n : Nat) (h : n < 9223372036854775807) : wrap64 ((n : Int) + 1) = ((n + 1 : Nat) : Int) := (wrap_in zq7 zq7).trans zq7
theorem spec_digest (b : ByteArray) (hb : b.size ≤ 140737488355328) (k : Nat) (hk : b.size < k) : spec_DigestOf.f k b = some (digV b) := by
 unfold spec_DigestOf.f digV
 refine loop0 (F := fun k i (h : Int) => spec_DigestOf.l0 k b h (i : Int)) b.size 0 (fun _ _ => True) (fun _ _ _ _ _ _ => trivial) (fun k i h _ hi _ => ?_) (fun k h _ _ => ?_) 7 trivial k zq7
 · show spec_DigestOf.l0 (k + 1) b h (i : Int) = _
   rw [spec_DigestOf.l0, if_pos zq7, if_pos zq7, dig_up i zq7]
   rfl
 · show spec_DigestOf.l0 (k + 1) b h (b.size : Int) = _
   rw [spec_DigestOf.l0, if_neg zq7]
theorem impl_digest (b : ByteArray) (hb : b.size ≤ 140737488355328) (k : Nat) (hk : b.size < k) : impl_DigestOf.f k b = some (digV b) := by
 unfold impl_DigestOf.f digV
 refine loop0 (F := fun k i (h : Int) => impl_DigestOf.l0 k b h (b.size : Int) (i : Int)) b.size 0 (fun _ _ => True) (fun _ _ _ _ _ _ => trivial) (fun k i h _ hi _ => ?_) (fun k h _ _ => ?_) 7 trivial k zq7
 · show impl_DigestOf.l0 (k + 1) b h (b.size : Int) (i : Int) = _
   rw [impl_DigestOf.l0, if_pos zq7, if_pos zq7, if_pos zq7, dig_up i zq7]
   rfl
 · show impl_DigestOf.l0 (k + 1) b h (b.size : Int) (b.size : Int) = _
   rw [impl_DigestOf.l0, if_neg zq7]
theorem dig_range (b : ByteArray) : ∀ (d i : Nat) (h : Int), 0 ≤ h → h < 65521 → 0 ≤ run (digStep b) (fun h => h) d i h ∧ run (digStep b) (fun h => h) d i h < 65521
 | 0, i, h, h0, h1 => ⟨h0, h1⟩
 | d + 1, i, h, h0, h1 => by
   rw [run_on (s' := Int.tmod (wrap64 ((wrap64 (h * 131)) + (wrap64 (bt b (i : Int))))) 65521) rfl]
   obtain ⟨b0, b1⟩ := bt_range b (i : Int)
   have e1 : wrap64 (h * 131) = h * 131 := wrap_in zq7 zq7
   have e2 : wrap64 (bt b (i : Int)) = bt b (i : Int) := wrap_in zq7 zq7
   rw [e1, e2]
   have e3 : wrap64 (h * 131 + bt b (i : Int)) = h * 131 + bt b (i : Int) := wrap_in zq7 zq7
   rw [e3, Int.tmod_eq_emod_of_nonneg zq7]
   exact dig_range b d (i + 1) _ (Int.emod_nonneg _ zq9) (Int.emod_lt_of_pos _ zq9)
theorem digV_nat (b : ByteArray) : ∃ u : Nat, u < 65521 ∧ digV b = (u : Int) := by
 obtain ⟨h0, h1⟩ := dig_range b b.size 0 7 zq9 zq9
 exact ⟨(digV b).toNat, by unfold digV; omega, by unfold digV; omega⟩
end Go.Proofs.YtpnoghcdfbmpoaaGreatDoorX

namespace Go.Proofs.YtpnoghcdfbmpoaaGreatDoor.PX
open Go.RowKit Go.Proofs.YtpnoghcdfbmpoaaGreatDoorW.PrintWords Go.Proofs.YtpnoghcdfbmpoaaGreatDoorW.PrintLast Go.Proofs.YtpnoghcdfbmpoaaGreatDoorW.PrintMore
attribute [local go_sem] max2_int min2_int max_two min_two max_three min_three max_four min_four   -- for this text's walks alone
set_option linter.unusedVariables false
set_option linter.unusedSimpArgs false
def spec_TextFault.f (k : Nat) (a0 : ByteArray) : Option (Int) := if (a0.size : Int) > 2000 then (some 2) else ((spec_l1Split.f k a0).bind fun t114 => (if (t114.length : Int) > 100 then (some 2) else (some 0)))
set_option maxHeartbeats 8000000 in
set_option maxRecDepth 100000 in
theorem spec_TextFault.calls (k : Nat) (a0 : ByteArray) (r : Int) (w : World) (h : spec_TextFault.f k a0 = some r) :
  Calls Tryz.prog 79 #[.string a0] w fun e w' => e = .returned (.int .i64 r) ∧ Below w.heap.size w w' := by
 have HB := zK (Below.refl w.heap.size w)
 have H : (if (a0.size : Int) > 2000 then (some 2) else ((spec_l1Split.f k a0).bind fun t114 => (if (t114.length : Int) > 100 then (some 2) else (some 0)))) = some r := h
 clear h
 by_cases c2 : (a0.size : Int) > 2000
 ·
  rw [if_pos c2] at H
  have c2b0 : decide (2000 < (a0.size : Int)) = true := decide_eq_true c2
  have c2b1 : decide (2000 < a0.size) = true := decide_eq_true zq7
  clear c2
  obtain rfl := Option.some.inj H
  go_enter Tryz.func79, Tryz.ntmps79
  go_wp2
  go_ret
  exact ⟨zq3, zq0⟩
 rw [if_neg c2] at H
 have c2b0 : decide (2000 < (a0.size : Int)) = false := decide_eq_false c2
 have c2b1 : decide (2000 < a0.size) = false := decide_eq_false zq7
 clear c2
 replace H := Option.bind_eq_some_iff.mp H
 obtain ⟨t114, A30, H⟩ := H
 replace H : (if (t114.length : Int) > 100 then (some 2) else (some 0)) = some r := H
 have A3 := zK A30
 clear A30
 by_cases c4 : (t114.length : Int) > 100
 ·
  rw [if_pos c4] at H
  have c4b0 : decide (100 < (t114.length : Int)) = true := decide_eq_true c4
  have c4b1 : decide (100 < t114.length) = true := decide_eq_true zq7
  clear c4
  obtain rfl := Option.some.inj H
  go_enter Tryz.func79, Tryz.ntmps79
  go_wp2_with (first | (go_at_call 87; (with_reducible refine (spec_l1Split.calls k a0 t114 _ A3.out).mono ?_); rintro e w5 ⟨v115, rfl, ho0, hb⟩; have n0_ := zK (Kd.R_lower ho0 (below_size zq0)); have n1_ := zK (below_step zq0 hb); clear HB; have HO116 := n0_; have HB := n1_; clear n0_ n1_; (try clear hb); (try clear hb2); (try clear hk); (try clear hi); (try clear ho0); obtain ⟨Ao6, co6, eo6⟩ := Kd.R_slice HO116.out; subst eo6))
  go_ret
  exact ⟨zq3, zq0⟩
 rw [if_neg c4] at H
 have c4b0 : decide (100 < (t114.length : Int)) = false := decide_eq_false c4
 have c4b1 : decide (100 < t114.length) = false := decide_eq_false zq7
 clear c4
 obtain rfl := Option.some.inj H
 go_enter Tryz.func79, Tryz.ntmps79
 go_wp2_with (first | (go_at_call 87; (with_reducible refine (spec_l1Split.calls k a0 t114 _ A3.out).mono ?_); rintro e w7 ⟨v115, rfl, ho0, hb⟩; have n0_ := zK (Kd.R_lower ho0 (below_size zq0)); have n1_ := zK (below_step zq0 hb); clear HB; have HO116 := n0_; have HB := n1_; clear n0_ n1_; (try clear hb); (try clear hb2); (try clear hk); (try clear hi); (try clear ho0); obtain ⟨Ao8, co8, eo8⟩ := Kd.R_slice HO116.out; subst eo8))
 go_ret
 exact ⟨zq3, zq0⟩
end Go.Proofs.YtpnoghcdfbmpoaaGreatDoor.PX

namespace Go.Proofs.YtpnoghcdfbmpoaaGreatDoorX
open Go Go.RowKit Go.Proofs.YtpnoghcdfbmpoaaGreatDoorW.PrintWords Go.Proofs.YtpnoghcdfbmpoaaGreatDoor.PX
theorem firstCode_two (a b : Int) (k : Nat) (hk : 3 ≤ k) : impl_firstCode.f k [a, b] = some (if a = 0 then b else a) := by
 obtain ⟨k, rfl⟩ : ∃ m, k = m + 3 := ⟨k - 3, by omega⟩
 unfold impl_firstCode.f
 simp only [impl_firstCode.l0, List.length_cons, List.length_nil]
 have w0 : wrap64 ((0 : Int) + 1) = 1 := wrap_in zq7 zq7
 have w1 : wrap64 ((1 : Int) + 1) = 2 := wrap_in zq7 zq7
 simp only [w0, w1, rd]
 by_cases ha : a = 0
 · subst ha
   by_cases hb : b = 0
   · subst hb; simp
   · simp [hb]
 · simp [ha]
end Go.Proofs.YtpnoghcdfbmpoaaGreatDoorX

namespace Go.Proofs.YtpnoghcdfbmpoaaGreatDoor.PX
open Go.RowKit Go.Proofs.YtpnoghcdfbmpoaaGreatDoorW.PrintWords Go.Proofs.YtpnoghcdfbmpoaaGreatDoorW.PrintLast Go.Proofs.YtpnoghcdfbmpoaaGreatDoorW.PrintMore
attribute [local go_sem] max2_int min2_int max_two min_two max_three min_three max_four min_four   -- for this text's walks alone
set_option linter.unusedVariables false
set_option linter.unusedSimpArgs false
def spec_l5Kind.f (a0 : Int) : Option (Bool) := (spec_l1In.f a0 1 3).bind fun t104 => (some t104)
set_option maxHeartbeats 8000000 in
set_option maxRecDepth 100000 in
theorem spec_l5Kind.calls (a0 : Int) (r : Bool) (w : World) (h : spec_l5Kind.f a0 = some r) :
  Calls Tryz.prog 78 #[.int .i64 a0] w fun e w' => e = .returned (.bool r) ∧ Drawn0 w w' := by
 have H : ((spec_l1In.f a0 1 3).bind fun t104 => (some t104)) = some r := h
 clear h
 replace H := Option.bind_eq_some_iff.mp H
 obtain ⟨t104, A20, H⟩ := H
 replace H : (some t104) = some r := H
 have A2 := zK A20
 clear A20
 obtain rfl := Option.some.inj H
 go_enter Tryz.func78, Tryz.ntmps78
 go_wp2_with (first | ((with_reducible refine gate_callee (f := 114) rfl ?_); refine goesL_ (some 4) rfl rfl Tryz.func114 zq6 rfl #[.int .i64 a0, .int .i64 1, .int .i64 3] rfl zq1 ?_; (with_reducible refine (spec_l1In.calls a0 1 3 t104 _ A2.out).mono ?_); rintro e w' ⟨rfl, ⟨nd, rfl⟩⟩; refine ⟨_, rfl, ?_⟩))
 go_ret
 exact ⟨zq5, zq8⟩
def spec_l5Id.l0 : Nat → Int → Int → ByteArray → Int → Option (ByteArray)
 | 0, _, _, _, _ => none
 | k + 1, x0, x5, x6, x7 => if x7 < 4 then (if 0 ≤ (Int.tmod x5 16) then (if (Int.tmod x5 16) ≤ (wrap64 ((Int.tmod x5 16) + 1)) then (if (wrap64 ((Int.tmod x5 16) + 1)) ≤ 16 then (if ((⟨#[48, 49, 50, 51, 52, 53, 54, 55, 56, 57, 97, 98, 99, 100, 101, 102]⟩ : ByteArray).extract ((Int.tmod x5 16) : Int).toNat ((wrap64 ((Int.tmod x5 16) + 1)) : Int).toNat).size + x6.size ≤ 9223372036854775807 then (spec_l5Id.l0 k x0 (wrap64 (Int.tdiv x5 16)) (((⟨#[48, 49, 50, 51, 52, 53, 54, 55, 56, 57, 97, 98, 99, 100, 101, 102]⟩ : ByteArray).extract ((Int.tmod x5 16) : Int).toNat ((wrap64 ((Int.tmod x5 16) + 1)) : Int).toNat) ++ x6) (wrap64 (x7 + 1))) else (none)) else (none)) else (none)) else (none)) else ((spec_l5Letter.f x0).bind fun t118 => (if t118.size + x6.size ≤ 9223372036854775807 then (some (t118 ++ x6)) else (none)))
def spec_l5Id.f (k : Nat) (a0 : Int) (a1 : ByteArray) : Option (ByteArray) := (spec_DigestOf.f k a1).bind fun t117 => (spec_l5Id.l0 k a0 t117 (⟨#[]⟩ : ByteArray) 0)
set_option maxHeartbeats 8000000 in
set_option maxRecDepth 100000 in
theorem spec_l5Id.calls (k : Nat) (a0 : Int) (a1 : ByteArray) (r : ByteArray) (w : World) (h : spec_l5Id.f k a0 a1 = some r) :
  Calls Tryz.prog 80 #[.int .i64 a0, .string a1] w fun e w' => e = .returned (.string r) ∧ Drawn0 w w' := by
 have H : ((spec_DigestOf.f k a1).bind fun t117 => (spec_l5Id.l0 k a0 t117 (⟨#[]⟩ : ByteArray) 0)) = some r := h
 clear h
 replace H := Option.bind_eq_some_iff.mp H
 obtain ⟨t117, A30, H⟩ := H
 replace H : (spec_l5Id.l0 k a0 t117 (⟨#[]⟩ : ByteArray) 0) = some r := H
 have A3 := zK A30
 clear A30
 have H' := zK H
 clear H
 go_enter Tryz.func80, Tryz.ntmps80
 go_wp2_with (first | ((with_reducible refine gate_callee (f := 115) rfl ?_); refine goesL_ (some 10) rfl rfl Tryz.func115 zq6 rfl #[.string a1] rfl zq1 ?_; (with_reducible refine (spec_DigestOf.calls k a1 t117 _ A3.out).mono ?_); rintro e w' ⟨rfl, ⟨nd, rfl⟩⟩; refine ⟨_, rfl, ?_⟩))
 go_loopg [5, 6, 7] k (fun kq v5 v6 v7 w' => ∃ (x5_1 : Int) (x6_1 : ByteArray) (x7_1 : Int), v5 = .int .i64 x5_1 ∧ v6 = .string x6_1 ∧ v7 = .int .i64 x7_1 ∧ Aside0 (spec_l5Id.l0 kq a0 x5_1 x6_1 x7_1 = some r) ∧ Aside0 (kq ≤ k) ∧ Drawn0 w w')
 case atStart => exact ⟨(t117), ((⟨#[]⟩ : ByteArray)), (0), zq5, zq5, zq5, H', ⟨Nat.le_refl _⟩, by repeat (first | exact Drawn0.refl _ | apply Drawn0.step)⟩
 case round =>
  clear H'
  try clear c1
  try clear p2
  obtain ⟨x5_1, x6_1, x7_1, rfl, rfl, rfl, HA, HK1, ⟨m1, rfl⟩⟩ := hrel
  cases gk with
  | zero => exact absurd HA.out (by simp [spec_l5Id.l0])
  | succ k1 =>
   have H := HA.out
   clear HA
   simp only [spec_l5Id.l0] at H
   by_cases c4 : x7_1 < 4
   ·
    rw [if_pos c4] at H
    have c4b0 : decide (x7_1 < 4) = true := decide_eq_true c4
    clear c4
    obtain ⟨ji5, hji5⟩ : ∃ j_ : Int, (Int.tmod x5_1 16) = j_ := ⟨_, rfl⟩
    replace H : (if 0 ≤ (ji5) then (if (ji5) ≤ (wrap64 ((ji5) + 1)) then (if (wrap64 ((ji5) + 1)) ≤ 16 then (if ((⟨#[48, 49, 50, 51, 52, 53, 54, 55, 56, 57, 97, 98, 99, 100, 101, 102]⟩ : ByteArray).extract ((ji5) : Int).toNat ((wrap64 ((ji5) + 1)) : Int).toNat).size + x6_1.size ≤ 9223372036854775807 then (spec_l5Id.l0 k1 a0 (wrap64 (Int.tdiv x5_1 16)) (((⟨#[48, 49, 50, 51, 52, 53, 54, 55, 56, 57, 97, 98, 99, 100, 101, 102]⟩ : ByteArray).extract ((ji5) : Int).toNat ((wrap64 ((ji5) + 1)) : Int).toNat) ++ x6_1) (wrap64 (x7_1 + 1))) else (none)) else (none)) else (none)) else (none)) = some r := by first | (rw [hji5] at H; exact H) | (simp only [hji5] at H ⊢; exact H)
    by_cases c6 : 0 ≤ (ji5)
    ·
     rw [if_pos c6] at H
     have c6b0 := eq_true c6
     have c6b1 : decide (0 ≤ (ji5)) = true := decide_eq_true c6
     clear c6
     by_cases c7 : (ji5) ≤ (wrap64 ((ji5) + 1))
     ·
      rw [if_pos c7] at H
      have c7b0 := eq_true c7
      have c7b1 : decide ((ji5) ≤ (wrap64 ((ji5) + 1))) = true := decide_eq_true c7
      by_cases c8 : (wrap64 ((ji5) + 1)) ≤ 16
      ·
       rw [if_pos c8] at H
       have c8b0 := eq_true c8
       have c8b1 : decide ((wrap64 ((ji5) + 1)) ≤ 16) = true := decide_eq_true c8
       by_cases c9 : ((⟨#[48, 49, 50, 51, 52, 53, 54, 55, 56, 57, 97, 98, 99, 100, 101, 102]⟩ : ByteArray).extract ((ji5) : Int).toNat ((wrap64 ((ji5) + 1)) : Int).toNat).size + x6_1.size ≤ 9223372036854775807
       ·
        rw [if_pos c9] at H
        have c9b0 := eq_true c9
        have c9b1 : decide (((⟨#[48, 49, 50, 51, 52, 53, 54, 55, 56, 57, 97, 98, 99, 100, 101, 102]⟩ : ByteArray).extract ((ji5) : Int).toNat ((wrap64 ((ji5) + 1)) : Int).toNat).size + x6_1.size ≤ 9223372036854775807) = true := decide_eq_true c9
        try have c9b2 : (9223372036854775807 < ((⟨#[48, 49, 50, 51, 52, 53, 54, 55, 56, 57, 97, 98, 99, 100, 101, 102]⟩ : ByteArray).extract ((ji5) : Int).toNat ((wrap64 ((ji5) + 1)) : Int).toNat).size + x6_1.size) = False := eq_false (Nat.not_lt.2 c9)
        have H' := zK H
        clear H
        go_wp2
        go_roundg k1
        case measure => have := HK1.out; omega
        case rel => exact ⟨(wrap64 (Int.tdiv x5_1 16)), (((⟨#[48, 49, 50, 51, 52, 53, 54, 55, 56, 57, 97, 98, 99, 100, 101, 102]⟩ : ByteArray).extract ((ji5) : Int).toNat ((wrap64 ((ji5) + 1)) : Int).toNat) ++ x6_1), (wrap64 (x7_1 + 1)), zq5, (by first | rfl | (simp; done) | (simp only [← hji5] <;> (first | rfl | simp)) | (simp [*]; done)), zq5, H', ⟨by have := HK1.out; omega⟩, by repeat (first | exact Drawn0.refl _ | apply Drawn0.step)⟩
       rw [if_neg c9] at H
       exact absurd H zq12
      rw [if_neg c8] at H
      exact absurd H zq12
     rw [if_neg c7] at H
     exact absurd H zq12
    rw [if_neg c6] at H
    exact absurd H zq12
   rw [if_neg c4] at H
   have c4b0 : decide (x7_1 < 4) = false := decide_eq_false c4
   clear c4
   replace H := Option.bind_eq_some_iff.mp H
   obtain ⟨t118, A100, H⟩ := H
   replace H : (if t118.size + x6_1.size ≤ 9223372036854775807 then (some (t118 ++ x6_1)) else (none)) = some r := H
   have A10 := zK A100
   clear A100
   by_cases c11 : t118.size + x6_1.size ≤ 9223372036854775807
   ·
    rw [if_pos c11] at H
    have c11b0 := eq_true c11
    have c11b1 : decide (t118.size + x6_1.size ≤ 9223372036854775807) = true := decide_eq_true c11
    try have c11b2 : (9223372036854775807 < t118.size + x6_1.size) = False := eq_false (Nat.not_lt.2 c11)
    obtain rfl := Option.some.inj H
    go_wp2_with (first | ((with_reducible refine gate_callee (f := 116) rfl ?_); refine goesL_ (some 26) rfl rfl Tryz.func116 zq6 rfl #[.int .i64 a0] rfl zq1 ?_; (with_reducible refine (spec_l5Letter.calls a0 t118 _ A10.out).mono ?_); rintro e w' ⟨rfl, ⟨nd, rfl⟩⟩; refine ⟨_, rfl, ?_⟩))
    go_ret
    exact ⟨zq5, zq8⟩
   rw [if_neg c11] at H
   exact absurd H zq12
def spec_IdOf.f (k : Nat) (a0 : Int) (a1 : ByteArray) : Option (Int × ByteArray) := (spec_l5Kind.f a0).bind fun t120 => (if t120 = true then ((spec_TextFault.f k a1).bind fun t121 => (if t121 = 0 then ((spec_l5Id.f k a0 a1).bind fun t122 => (some (0, t122))) else (some (t121, (⟨#[]⟩ : ByteArray))))) else (some (3, (⟨#[]⟩ : ByteArray))))
set_option maxHeartbeats 8000000 in
set_option maxRecDepth 100000 in
theorem spec_IdOf.calls (k : Nat) (a0 : Int) (a1 : ByteArray) (r1 : Int) (r2 : ByteArray) (w : World) (h : spec_IdOf.f k a0 a1 = some (r1, r2)) :
  Calls Tryz.prog 56 #[.int .i64 a0, .string a1] w fun e w' => e = .returned (.agg #[.int .i64 r1, .string r2]) ∧ Below w.heap.size w w' := by
 have hu43 := Tryz.underlying43
 have HB := zK (Below.refl w.heap.size w)
 have H : ((spec_l5Kind.f a0).bind fun t120 => (if t120 = true then ((spec_TextFault.f k a1).bind fun t121 => (if t121 = 0 then ((spec_l5Id.f k a0 a1).bind fun t122 => (some (0, t122))) else (some (t121, (⟨#[]⟩ : ByteArray))))) else (some (3, (⟨#[]⟩ : ByteArray))))) = some (r1, r2) := h
 clear h
 replace H := Option.bind_eq_some_iff.mp H
 obtain ⟨t120, A30, H⟩ := H
 replace H : (if t120 = true then ((spec_TextFault.f k a1).bind fun t121 => (if t121 = 0 then ((spec_l5Id.f k a0 a1).bind fun t122 => (some (0, t122))) else (some (t121, (⟨#[]⟩ : ByteArray))))) else (some (3, (⟨#[]⟩ : ByteArray)))) = some (r1, r2) := H
 have A3 := zK A30
 clear A30
 by_cases c4 : t120 = true
 ·
  subst c4
  have H1 : ((spec_TextFault.f k a1).bind fun t121 => (if t121 = 0 then ((spec_l5Id.f k a0 a1).bind fun t122 => (some (0, t122))) else (some (t121, (⟨#[]⟩ : ByteArray))))) = some (r1, r2) := by rw [if_pos rfl] at H; exact H
  clear H
  have H := H1
  clear H1
  replace H := Option.bind_eq_some_iff.mp H
  obtain ⟨t121, A50, H⟩ := H
  replace H : (if t121 = 0 then ((spec_l5Id.f k a0 a1).bind fun t122 => (some (0, t122))) else (some (t121, (⟨#[]⟩ : ByteArray)))) = some (r1, r2) := H
  have A5 := zK A50
  clear A50
  by_cases c6 : t121 = 0
  ·
   rw [if_pos c6] at H
   have c6b0 : (t121 == 0) = true := beq_iff_eq.mpr c6
   have c6b1 : (t121 != 0) = false := bne_eq_false_iff_eq.mpr c6
   clear c6
   replace H := Option.bind_eq_some_iff.mp H
   obtain ⟨t122, A70, H⟩ := H
   replace H : (some (0, t122)) = some (r1, r2) := H
   have A7 := zK A70
   clear A70
   simp only [Option.some.injEq, Prod.mk.injEq] at H
   obtain ⟨rfl, rfl⟩ := H
   go_enter Tryz.func56, Tryz.ntmps56
   go_wp2_with (first | ((with_reducible refine gate_dst (N := 4) rfl ?_); refine box_event ?hg (N := 4) ?hd (cs := #[.int .i64 0, .string (⟨#[]⟩ : ByteArray)]) (t := 43) ?hr ?_; (case hd => rfl); (case hg => rfl); (case hr => first | (go_simp; done) | (go_simp; rfl)); intro gb119 hg w8 hbox hb; have n0_ := zK (below_step zq0 hb); have n1_ := zK (hbox); have n2_ := zK ((by rw [hg]; exact (below_size zq0) : w.heap.size ≤ gb119)); have n3_ := zK ((by rw [hg]; exact (below_size zq0) : w.heap.size ≤ gb119)); clear HB; have HB := n0_; have BK119 := n1_; have GW119 := n2_; have GE119 := n3_; clear n0_ n1_ n2_ n3_; clear hb hbox hg) | ((with_reducible refine gate_callee (f := 78) rfl ?_); refine goesL_ (some 7) rfl rfl Tryz.func78 zq6 rfl #[.int .i64 a0] rfl zq1 ?_; (with_reducible refine (spec_l5Kind.calls a0 true _ A3.out).mono ?_); rintro e w' ⟨rfl, ⟨nd, rfl⟩⟩; refine ⟨_, rfl, ?_⟩; (try (rw [drewN_self w8]; generalize hq_ : World.drewN w8 _ = w8; have n0_ : Aside0 (w8.heap[gb119]? = some (.cells #[.int .i64 0, .string (⟨#[]⟩ : ByteArray)] 43 (0, 0))) := ⟨by rw [← hq_]; exact (by (with_reducible repeat (first | refine zM ?_ _ | refine zP ?_ | refine zQ ?_ _)); exact BK119.out)⟩; have n1_ : Aside0 (Below w.heap.size w w8) := ⟨by rw [← hq_]; exact (by repeat (first | (with_reducible first | exact HB.out | apply zA | apply zN | apply zD | refine below_set ?_ GE119.out) | exact HB.out))⟩; clear BK119 HB hq_; have BK119 := n0_; have HB := n1_; clear n0_ n1_))) | ((with_reducible refine gate_callee (f := 79) rfl ?_); refine goesL_ (some 11) rfl rfl Tryz.func79 zq6 rfl #[.string a1] rfl zq1 ?_; (with_reducible refine (spec_TextFault.calls k a1 t121 _ A5.out).mono ?_); rintro e w9 ⟨rfl, hb⟩; refine ⟨_, rfl, ?_⟩; have n0_ := zK (blk_below (g := gb119) (o := .cells #[.int .i64 0, .string (⟨#[]⟩ : ByteArray)] 43 (0, 0)) (by (with_reducible repeat (first | refine zM ?_ _ | refine zP ?_ | refine zQ ?_ _)); exact BK119.out) hb); have n1_ := zK (below_step (by repeat (first | (with_reducible first | exact HB.out | apply zA | apply zN | apply zD | refine below_set ?_ GE119.out) | exact HB.out)) hb); clear BK119; clear HB; have BK119 := n0_; have HB := n1_; clear n0_ n1_; (try clear hb); (try clear hb2); (try clear hk); (try clear hi)) | ((with_reducible refine gate_callee (f := 80) rfl ?_); refine goesL_ (some 18) rfl rfl Tryz.func80 zq6 rfl #[.int .i64 a0, .string a1] rfl zq1 ?_; (with_reducible refine (spec_l5Id.calls k a0 a1 t122 _ A7.out).mono ?_); rintro e w' ⟨rfl, ⟨nd, rfl⟩⟩; refine ⟨_, rfl, ?_⟩; (try (rw [drewN_self w9]; generalize hq_ : World.drewN w9 _ = w9; have n0_ : Aside0 (w9.heap[gb119]? = some (.cells #[.int .i64 0, .string (⟨#[]⟩ : ByteArray)] 43 (0, 0))) := ⟨by rw [← hq_]; exact (by (with_reducible repeat (first | refine zM ?_ _ | refine zP ?_ | refine zQ ?_ _)); exact BK119.out)⟩; have n1_ : Aside0 (Below w.heap.size w w9) := ⟨by rw [← hq_]; exact (by repeat (first | (with_reducible first | exact HB.out | apply zA | apply zN | apply zD | refine below_set ?_ GE119.out) | exact HB.out))⟩; clear BK119 HB hq_; have BK119 := n0_; have HB := n1_; clear n0_ n1_)); have hcz10_0 : w9.cell? ⟨gb119, 0, none⟩ = some (.int .i64 0) := (blk_cell BK119.out 0).trans rfl; have hcz10_1 : w9.cell? ⟨gb119, 1, none⟩ = some (.string (⟨#[]⟩ : ByteArray)) := (blk_cell BK119.out 1).trans rfl; have hfz10_0 := blk_frozen BK119.out 0; have hfz10_1 := blk_frozen BK119.out 1))
   refine bodyPost_ret (results_cell_row rfl _ _ gb119 43 #[.int .i64 0, .string t122] (0, 0) _ rfl (by (with_reducible repeat (first | refine zM ?_ _ | refine zP ?_ | refine zQ ?_ _)); refine blk_put (cs := #[.int .i64 0, .string (⟨#[]⟩ : ByteArray)]) ?_ 1 _ rfl; (with_reducible repeat (first | refine zM ?_ _ | refine zP ?_ | refine zQ ?_ _)); refine blk_put (cs := #[.int .i64 0, .string (⟨#[]⟩ : ByteArray)]) ?_ 0 _ rfl; (with_reducible repeat (first | refine zM ?_ _ | refine zP ?_ | refine zQ ?_ _)); exact BK119.out) Tryz.underlying43 rfl zq6) rfl ?_
   exact ⟨zq3, (by repeat (first | (with_reducible first | exact HB.out | apply zA | apply zN | apply zD | refine below_set ?_ GE119.out) | exact HB.out))⟩
  rw [if_neg c6] at H
  have c6b0 : (t121 == 0) = false := beq_eq_false_iff_ne.mpr c6
  have c6b1 : (t121 != 0) = true := bne_iff_ne.mpr c6
  simp only [Option.some.injEq, Prod.mk.injEq] at H
  obtain ⟨rfl, rfl⟩ := H
  go_enter Tryz.func56, Tryz.ntmps56
  go_wp2_with (first | ((with_reducible refine gate_dst (N := 4) rfl ?_); refine box_event ?hg (N := 4) ?hd (cs := #[.int .i64 0, .string (⟨#[]⟩ : ByteArray)]) (t := 43) ?hr ?_; (case hd => rfl); (case hg => rfl); (case hr => first | (go_simp; done) | (go_simp; rfl)); intro gb119 hg w11 hbox hb; have n0_ := zK (below_step zq0 hb); have n1_ := zK (hbox); have n2_ := zK ((by rw [hg]; exact (below_size zq0) : w.heap.size ≤ gb119)); have n3_ := zK ((by rw [hg]; exact (below_size zq0) : w.heap.size ≤ gb119)); clear HB; have HB := n0_; have BK119 := n1_; have GW119 := n2_; have GE119 := n3_; clear n0_ n1_ n2_ n3_; clear hb hbox hg) | ((with_reducible refine gate_callee (f := 78) rfl ?_); refine goesL_ (some 7) rfl rfl Tryz.func78 zq6 rfl #[.int .i64 a0] rfl zq1 ?_; (with_reducible refine (spec_l5Kind.calls a0 true _ A3.out).mono ?_); rintro e w' ⟨rfl, ⟨nd, rfl⟩⟩; refine ⟨_, rfl, ?_⟩; (try (rw [drewN_self w11]; generalize hq_ : World.drewN w11 _ = w11; have n0_ : Aside0 (w11.heap[gb119]? = some (.cells #[.int .i64 0, .string (⟨#[]⟩ : ByteArray)] 43 (0, 0))) := ⟨by rw [← hq_]; exact (by (with_reducible repeat (first | refine zM ?_ _ | refine zP ?_ | refine zQ ?_ _)); exact BK119.out)⟩; have n1_ : Aside0 (Below w.heap.size w w11) := ⟨by rw [← hq_]; exact (by repeat (first | (with_reducible first | exact HB.out | apply zA | apply zN | apply zD | refine below_set ?_ GE119.out) | exact HB.out))⟩; clear BK119 HB hq_; have BK119 := n0_; have HB := n1_; clear n0_ n1_))) | ((with_reducible refine gate_callee (f := 79) rfl ?_); refine goesL_ (some 11) rfl rfl Tryz.func79 zq6 rfl #[.string a1] rfl zq1 ?_; (with_reducible refine (spec_TextFault.calls k a1 t121 _ A5.out).mono ?_); rintro e w12 ⟨rfl, hb⟩; refine ⟨_, rfl, ?_⟩; have n0_ := zK (blk_below (g := gb119) (o := .cells #[.int .i64 0, .string (⟨#[]⟩ : ByteArray)] 43 (0, 0)) (by (with_reducible repeat (first | refine zM ?_ _ | refine zP ?_ | refine zQ ?_ _)); exact BK119.out) hb); have n1_ := zK (below_step (by repeat (first | (with_reducible first | exact HB.out | apply zA | apply zN | apply zD | refine below_set ?_ GE119.out) | exact HB.out)) hb); clear BK119; clear HB; have BK119 := n0_; have HB := n1_; clear n0_ n1_; (try clear hb); (try clear hb2); (try clear hk); (try clear hi); have hcz13_0 : w12.cell? ⟨gb119, 0, none⟩ = some (.int .i64 0) := (blk_cell BK119.out 0).trans rfl; have hcz13_1 : w12.cell? ⟨gb119, 1, none⟩ = some (.string (⟨#[]⟩ : ByteArray)) := (blk_cell BK119.out 1).trans rfl; have hfz13_0 := blk_frozen BK119.out 0; have hfz13_1 := blk_frozen BK119.out 1))
  refine bodyPost_ret (results_cell_row rfl _ _ gb119 43 #[.int .i64 t121, .string (⟨#[]⟩ : ByteArray)] (0, 0) _ rfl (by (with_reducible repeat (first | refine zM ?_ _ | refine zP ?_ | refine zQ ?_ _)); refine blk_put (cs := #[.int .i64 t121, .string (⟨#[]⟩ : ByteArray)]) ?_ 1 _ rfl; (with_reducible repeat (first | refine zM ?_ _ | refine zP ?_ | refine zQ ?_ _)); refine blk_put (cs := #[.int .i64 0, .string (⟨#[]⟩ : ByteArray)]) ?_ 0 _ rfl; (with_reducible repeat (first | refine zM ?_ _ | refine zP ?_ | refine zQ ?_ _)); exact BK119.out) Tryz.underlying43 rfl zq6) rfl ?_
  exact ⟨zq3, (by repeat (first | (with_reducible first | exact HB.out | apply zA | apply zN | apply zD | refine below_set ?_ GE119.out) | exact HB.out))⟩
 replace c4 := Bool.eq_false_iff.mpr c4
 subst c4
 have H1 : (some (3, (⟨#[]⟩ : ByteArray))) = some (r1, r2) := by rw [if_neg (show ¬ (false = true) by decide)] at H; exact H
 clear H
 have H := H1
 clear H1
 simp only [Option.some.injEq, Prod.mk.injEq] at H
 obtain ⟨rfl, rfl⟩ := H
 go_enter Tryz.func56, Tryz.ntmps56
 go_wp2_with (first | ((with_reducible refine gate_dst (N := 4) rfl ?_); refine box_event ?hg (N := 4) ?hd (cs := #[.int .i64 0, .string (⟨#[]⟩ : ByteArray)]) (t := 43) ?hr ?_; (case hd => rfl); (case hg => rfl); (case hr => first | (go_simp; done) | (go_simp; rfl)); intro gb119 hg w14 hbox hb; have n0_ := zK (below_step zq0 hb); have n1_ := zK (hbox); have n2_ := zK ((by rw [hg]; exact (below_size zq0) : w.heap.size ≤ gb119)); have n3_ := zK ((by rw [hg]; exact (below_size zq0) : w.heap.size ≤ gb119)); clear HB; have HB := n0_; have BK119 := n1_; have GW119 := n2_; have GE119 := n3_; clear n0_ n1_ n2_ n3_; clear hb hbox hg) | ((with_reducible refine gate_callee (f := 78) rfl ?_); refine goesL_ (some 7) rfl rfl Tryz.func78 zq6 rfl #[.int .i64 a0] rfl zq1 ?_; (with_reducible refine (spec_l5Kind.calls a0 false _ A3.out).mono ?_); rintro e w' ⟨rfl, ⟨nd, rfl⟩⟩; refine ⟨_, rfl, ?_⟩; (try (rw [drewN_self w14]; generalize hq_ : World.drewN w14 _ = w14; have n0_ : Aside0 (w14.heap[gb119]? = some (.cells #[.int .i64 0, .string (⟨#[]⟩ : ByteArray)] 43 (0, 0))) := ⟨by rw [← hq_]; exact (by (with_reducible repeat (first | refine zM ?_ _ | refine zP ?_ | refine zQ ?_ _)); exact BK119.out)⟩; have n1_ : Aside0 (Below w.heap.size w w14) := ⟨by rw [← hq_]; exact (by repeat (first | (with_reducible first | exact HB.out | apply zA | apply zN | apply zD | refine below_set ?_ GE119.out) | exact HB.out))⟩; clear BK119 HB hq_; have BK119 := n0_; have HB := n1_; clear n0_ n1_)); have hcz15_0 : w14.cell? ⟨gb119, 0, none⟩ = some (.int .i64 0) := (blk_cell BK119.out 0).trans rfl; have hcz15_1 : w14.cell? ⟨gb119, 1, none⟩ = some (.string (⟨#[]⟩ : ByteArray)) := (blk_cell BK119.out 1).trans rfl; have hfz15_0 := blk_frozen BK119.out 0; have hfz15_1 := blk_frozen BK119.out 1))
 refine bodyPost_ret (results_cell_row rfl _ _ gb119 43 #[.int .i64 3, .string (⟨#[]⟩ : ByteArray)] (0, 0) _ rfl (by (with_reducible repeat (first | refine zM ?_ _ | refine zP ?_ | refine zQ ?_ _)); refine blk_put (cs := #[.int .i64 3, .string (⟨#[]⟩ : ByteArray)]) ?_ 1 _ rfl; (with_reducible repeat (first | refine zM ?_ _ | refine zP ?_ | refine zQ ?_ _)); refine blk_put (cs := #[.int .i64 0, .string (⟨#[]⟩ : ByteArray)]) ?_ 0 _ rfl; (with_reducible repeat (first | refine zM ?_ _ | refine zP ?_ | refine zQ ?_ _)); exact BK119.out) Tryz.underlying43 rfl zq6) rfl ?_
 exact ⟨zq3, (by repeat (first | (with_reducible first | exact HB.out | apply zA | apply zN | apply zD | refine below_set ?_ GE119.out) | exact HB.out))⟩
def impl_isKind.f (a0 : Int) : Option (Bool) := (impl_within.f a0 1 3).bind fun t240 => (some t240)
set_option maxHeartbeats 8000000 in
set_option maxRecDepth 100000 in
theorem impl_isKind.calls (a0 : Int) (r : Bool) (w : World) (h : impl_isKind.f a0 = some r) :
  Calls Tryz.prog 82 #[.int .i64 a0] w fun e w' => e = .returned (.bool r) ∧ Drawn0 w w' := by
 have H : ((impl_within.f a0 1 3).bind fun t240 => (some t240)) = some r := h
 clear h
 replace H := Option.bind_eq_some_iff.mp H
 obtain ⟨t240, A20, H⟩ := H
 replace H : (some t240) = some r := H
 have A2 := zK A20
 clear A20
 obtain rfl := Option.some.inj H
 go_enter Tryz.func82, Tryz.ntmps82
 go_wp2_with (first | ((with_reducible refine gate_callee (f := 117) rfl ?_); refine goesL_ (some 4) rfl rfl Tryz.func117 zq6 rfl #[.int .i64 a0, .int .i64 1, .int .i64 3] rfl zq1 ?_; (with_reducible refine (impl_within.calls a0 1 3 t240 _ A2.out).mono ?_); rintro e w' ⟨rfl, ⟨nd, rfl⟩⟩; refine ⟨_, rfl, ?_⟩))
 go_ret
 exact ⟨zq5, zq8⟩
def stringslite_HasPrefix.f (a0 : ByteArray) (a1 : ByteArray) : Option (Bool) := if (a0.size : Int) ≥ (a1.size : Int) then (if 0 ≤ (a1.size : Int) then (if (a1.size : Int) ≤ (a0.size : Int) then (some ((a0.extract 0 ((a1.size : Int) : Int).toNat).toList == a1.toList)) else (none)) else (none)) else (some false)
set_option maxHeartbeats 8000000 in
set_option maxRecDepth 100000 in
theorem stringslite_HasPrefix.calls (a0 : ByteArray) (a1 : ByteArray) (r : Bool) (w : World) (h : stringslite_HasPrefix.f a0 a1 = some r) :
  Calls Tryz.prog 153 #[.string a0, .string a1] w fun e w' => e = .returned (.bool r) ∧ Drawn0 w w' := by
 have H : (if (a0.size : Int) ≥ (a1.size : Int) then (if 0 ≤ (a1.size : Int) then (if (a1.size : Int) ≤ (a0.size : Int) then (some ((a0.extract 0 ((a1.size : Int) : Int).toNat).toList == a1.toList)) else (none)) else (none)) else (some false)) = some r := h
 clear h
 by_cases c3 : (a0.size : Int) ≥ (a1.size : Int)
 ·
  rw [if_pos c3] at H
  have c3b0 : decide ((a1.size : Int) ≤ (a0.size : Int)) = true := decide_eq_true c3
  have c3b1 : decide (a1.size ≤ a0.size) = true := decide_eq_true (Int.ofNat_le.mp c3)
  clear c3
  by_cases c4 : 0 ≤ (a1.size : Int)
  ·
   rw [if_pos c4] at H
   have c4b0 := eq_true c4
   have c4b1 : decide (0 ≤ (a1.size : Int)) = true := decide_eq_true c4
   clear c4
   by_cases c5 : (a1.size : Int) ≤ (a0.size : Int)
   ·
    rw [if_pos c5] at H
    have c5b0 := eq_true c5
    have c5b1 : decide ((a1.size : Int) ≤ (a0.size : Int)) = true := decide_eq_true c5
    clear c5
    obtain rfl := Option.some.inj H
    go_enter Tryz.func153, Tryz.ntmps153
    go_wp2
    go_ret
    exact ⟨zq5, zq8⟩
   rw [if_neg c5] at H
   exact absurd H zq12
  rw [if_neg c4] at H
  exact absurd H zq12
 rw [if_neg c3] at H
 have c3b0 : decide ((a1.size : Int) ≤ (a0.size : Int)) = false := decide_eq_false c3
 have c3b1 : decide (a1.size ≤ a0.size) = false := decide_eq_false (fun h => c3 (Int.ofNat_le.mpr h))
 clear c3
 obtain rfl := Option.some.inj H
 go_enter Tryz.func153, Tryz.ntmps153
 go_wp2
 go_ret
 exact ⟨zq5, zq8⟩
def strings_HasPrefix.f (a0 : ByteArray) (a1 : ByteArray) : Option (Bool) := (stringslite_HasPrefix.f a0 a1).bind fun t281 => (some t281)
set_option maxHeartbeats 8000000 in
set_option maxRecDepth 100000 in
theorem strings_HasPrefix.calls (a0 : ByteArray) (a1 : ByteArray) (r : Bool) (w : World) (h : strings_HasPrefix.f a0 a1 = some r) :
  Calls Tryz.prog 119 #[.string a0, .string a1] w fun e w' => e = .returned (.bool r) ∧ Drawn0 w w' := by
 have H : ((stringslite_HasPrefix.f a0 a1).bind fun t281 => (some t281)) = some r := h
 clear h
 replace H := Option.bind_eq_some_iff.mp H
 obtain ⟨t281, A30, H⟩ := H
 replace H : (some t281) = some r := H
 have A3 := zK A30
 clear A30
 obtain rfl := Option.some.inj H
 go_enter Tryz.func119, Tryz.ntmps119
 go_wp2_with (first | ((with_reducible refine gate_callee (f := 153) rfl ?_); refine goesL_ (some 7) rfl rfl Tryz.func153 zq6 rfl #[.string a0, .string a1] rfl zq1 ?_; (with_reducible refine (stringslite_HasPrefix.calls a0 a1 t281 _ A3.out).mono ?_); rintro e w' ⟨rfl, ⟨nd, rfl⟩⟩; refine ⟨_, rfl, ?_⟩))
 go_ret
 exact ⟨zq5, zq8⟩
def bits_Mul64.f (a0 : Int) (a1 : Int) : Option (Int × Int) := some (IntKind.u64.wrap ((IntKind.u64.wrap ((IntKind.u64.wrap ((a0 / 4294967296) * (a1 / 4294967296))) + ((IntKind.u64.wrap ((IntKind.u64.wrap ((a0 / 4294967296) * (Go.bits .and .u64 a1 4294967295))) + ((IntKind.u64.wrap ((Go.bits .and .u64 a0 4294967295) * (Go.bits .and .u64 a1 4294967295))) / 4294967296))) / 4294967296))) + ((IntKind.u64.wrap ((Go.bits .and .u64 (IntKind.u64.wrap ((IntKind.u64.wrap ((a0 / 4294967296) * (Go.bits .and .u64 a1 4294967295))) + ((IntKind.u64.wrap ((Go.bits .and .u64 a0 4294967295) * (Go.bits .and .u64 a1 4294967295))) / 4294967296))) 4294967295) + (IntKind.u64.wrap ((Go.bits .and .u64 a0 4294967295) * (a1 / 4294967296))))) / 4294967296)), IntKind.u64.wrap (a0 * a1))
set_option maxHeartbeats 8000000 in
set_option maxRecDepth 100000 in
theorem bits_Mul64.calls (a0 : Int) (a1 : Int) (r1 : Int) (r2 : Int) (w : World) (h : bits_Mul64.f a0 a1 = some (r1, r2)) :
  Calls Tryz.prog 152 #[.int .u64 a0, .int .u64 a1] w fun e w' => e = .returned (.tuple #[.int .u64 r1, .int .u64 r2]) ∧ Drawn0 w w' := by
 have H : (some (IntKind.u64.wrap ((IntKind.u64.wrap ((IntKind.u64.wrap ((a0 / 4294967296) * (a1 / 4294967296))) + ((IntKind.u64.wrap ((IntKind.u64.wrap ((a0 / 4294967296) * (Go.bits .and .u64 a1 4294967295))) + ((IntKind.u64.wrap ((Go.bits .and .u64 a0 4294967295) * (Go.bits .and .u64 a1 4294967295))) / 4294967296))) / 4294967296))) + ((IntKind.u64.wrap ((Go.bits .and .u64 (IntKind.u64.wrap ((IntKind.u64.wrap ((a0 / 4294967296) * (Go.bits .and .u64 a1 4294967295))) + ((IntKind.u64.wrap ((Go.bits .and .u64 a0 4294967295) * (Go.bits .and .u64 a1 4294967295))) / 4294967296))) 4294967295) + (IntKind.u64.wrap ((Go.bits .and .u64 a0 4294967295) * (a1 / 4294967296))))) / 4294967296)), IntKind.u64.wrap (a0 * a1))) = some (r1, r2) := h
 clear h
 simp only [Option.some.injEq, Prod.mk.injEq] at H
 obtain ⟨rfl, rfl⟩ := H
 go_enter Tryz.func152, Tryz.ntmps152
 go_wp2
 go_ret2
 exact ⟨zq5, zq8⟩
def bits_Mul.f (a0 : Int) (a1 : Int) : Option (Int × Int) := (bits_Mul64.f a0 a1).bind fun bt279 => (some (bt279.1, bt279.2))
set_option maxHeartbeats 8000000 in
set_option maxRecDepth 100000 in
theorem bits_Mul.calls (a0 : Int) (a1 : Int) (r1 : Int) (r2 : Int) (w : World) (h : bits_Mul.f a0 a1 = some (r1, r2)) :
  Calls Tryz.prog 118 #[.int .u64 a0, .int .u64 a1] w fun e w' => e = .returned (.tuple #[.int .u64 r1, .int .u64 r2]) ∧ Drawn0 w w' := by
 have H : ((bits_Mul64.f a0 a1).bind fun bt279 => (some (bt279.1, bt279.2))) = some (r1, r2) := h
 clear h
 replace H := Option.bind_eq_some_iff.mp H
 obtain ⟨⟨t279, t280⟩, A30, H⟩ := H
 replace H : (some (t279, t280)) = some (r1, r2) := H
 have A3 := zK A30
 clear A30
 simp only [Option.some.injEq, Prod.mk.injEq] at H
 obtain ⟨rfl, rfl⟩ := H
 go_enter Tryz.func118, Tryz.ntmps118
 go_wp2_with (first | ((with_reducible refine gate_callee (f := 152) rfl ?_); refine goesL_ (some 25) rfl rfl Tryz.func152 zq6 rfl #[.int .u64 a0, .int .u64 a1] rfl zq1 ?_; (with_reducible refine (bits_Mul64.calls a0 a1 t279 t280 _ A3.out).mono ?_); rintro e w' ⟨rfl, ⟨nd, rfl⟩⟩; refine ⟨_, rfl, ?_⟩))
 go_ret2
 exact ⟨zq5, zq8⟩
def laws_eqTextResult.f (a0_0 : Int) (a0_1 : ByteArray) (a1_0 : Int) (a1_1 : ByteArray) : Option (Bool) := if a0_0 = a1_0 then (if a0_1.toList = a1_1.toList then (some true) else (some false)) else (some false)
set_option maxHeartbeats 8000000 in
set_option maxRecDepth 100000 in
theorem laws_eqTextResult.calls (a0_0 : Int) (a0_1 : ByteArray) (a1_0 : Int) (a1_1 : ByteArray) (r : Bool) (w : World) (h : laws_eqTextResult.f a0_0 a0_1 a1_0 a1_1 = some r) :
  Calls Tryz.prog 26 #[.agg #[.int .i64 a0_0, .string a0_1], .agg #[.int .i64 a1_0, .string a1_1]] w fun e w' => e = .returned (.bool r) ∧ Below w.heap.size w w' := by
 have hu43 := Tryz.underlying43
 have HB := zK (Below.refl w.heap.size w)
 have H : (if a0_0 = a1_0 then (if a0_1.toList = a1_1.toList then (some true) else (some false)) else (some false)) = some r := h
 clear h
 by_cases c3 : a0_0 = a1_0
 ·
  rw [if_pos c3] at H
  have c3b0 : (a0_0 == a1_0) = true := beq_iff_eq.mpr c3
  have c3b1 : (a0_0 != a1_0) = false := bne_eq_false_iff_eq.mpr c3
  clear c3
  by_cases c4 : a0_1.toList = a1_1.toList
  ·
   rw [if_pos c4] at H
   have c4b0 : (a0_1.toList == a1_1.toList) = true := beq_iff_eq.mpr c4
   have c4b1 : (a0_1.toList != a1_1.toList) = false := bne_eq_false_iff_eq.mpr c4
   clear c4
   obtain rfl := Option.some.inj H
   go_enter Tryz.func26, Tryz.ntmps26
   go_wp2_with (first | ((with_reducible refine gate_dst (N := 2) rfl ?_); refine box_event ?hg (N := 2) ?hd (cs := #[.int .i64 a0_0, .string a0_1]) (t := 43) ?hr ?_; (case hd => rfl); (case hg => rfl); (case hr => first | (go_simp; done) | (go_simp; rfl)); intro gb700 hg w5 hbox hb; have n0_ := zK (below_step zq0 hb); have n1_ := zK (hbox); have n2_ := zK ((by rw [hg]; exact (below_size zq0) : w.heap.size ≤ gb700)); have n3_ := zK ((by rw [hg]; exact (below_size zq0) : w.heap.size ≤ gb700)); clear HB; have HB := n0_; have BK700 := n1_; have GW700 := n2_; have GE700 := n3_; clear n0_ n1_ n2_ n3_; clear hb hbox hg) | ((with_reducible refine gate_dst (N := 3) rfl ?_); refine box_event ?hg (N := 3) ?hd (cs := #[.int .i64 a1_0, .string a1_1]) (t := 43) ?hr ?_; (case hd => rfl); (case hg => rfl); (case hr => first | (go_simp; done) | (go_simp; rfl)); intro gb701 hg w6 hbox hb; have n0_ := zK (blk_below (g := gb700) (o := .cells #[.int .i64 a0_0, .string a0_1] 43 (0, 0)) (by (with_reducible repeat (first | refine zM ?_ _ | refine zP ?_ | refine zQ ?_ _)); exact BK700.out) hb); have n1_ := zK (below_step (by repeat (first | (with_reducible first | exact HB.out | apply zA | apply zN | apply zD | refine below_set ?_ GE700.out) | exact HB.out)) hb); have n2_ := zK (hbox); have n3_ := zK ((by rw [hg]; exact (below_size (by repeat (first | (with_reducible first | exact HB.out | apply zA | apply zN | apply zD | refine below_set ?_ GE700.out) | exact HB.out))) : w.heap.size ≤ gb701)); have n4_ := zK ((by rw [hg]; exact (below_size (by repeat (first | (with_reducible first | exact HB.out | apply zA | apply zN | apply zD | refine below_set ?_ GE700.out) | exact HB.out))) : w.heap.size ≤ gb701)); have n5_ := zK ((by rw [hg]; exact Nat.ne_of_lt (blk_lt (g := gb700) (o := .cells #[.int .i64 a0_0, .string a0_1] 43 (0, 0)) (by (with_reducible repeat (first | refine zM ?_ _ | refine zP ?_ | refine zQ ?_ _)); exact BK700.out)) : gb700 ≠ gb701)); have n6_ := zK ((by rw [hg]; exact Nat.ne_of_gt (blk_lt (g := gb700) (o := .cells #[.int .i64 a0_0, .string a0_1] 43 (0, 0)) (by (with_reducible repeat (first | refine zM ?_ _ | refine zP ?_ | refine zQ ?_ _)); exact BK700.out)) : gb701 ≠ gb700)); clear BK700; clear HB; have BK700 := n0_; have HB := n1_; have BK701 := n2_; have GW701 := n3_; have GE701 := n4_; have NB700_701 := n5_; have NB701_700 := n6_; clear n0_ n1_ n2_ n3_ n4_ n5_ n6_; clear hb hbox hg; have hnb7 := NB700_701.out; have hnc7 := NB701_700.out; have hcz8_0 : w6.cell? ⟨gb700, 0, none⟩ = some (.int .i64 a0_0) := (blk_cell BK700.out 0).trans rfl; have hcz8_1 : w6.cell? ⟨gb700, 1, none⟩ = some (.string a0_1) := (blk_cell BK700.out 1).trans rfl; have hfz8_0 := blk_frozen BK700.out 0; have hfz8_1 := blk_frozen BK700.out 1; have hcz9_0 : w6.cell? ⟨gb701, 0, none⟩ = some (.int .i64 a1_0) := (blk_cell BK701.out 0).trans rfl; have hcz9_1 : w6.cell? ⟨gb701, 1, none⟩ = some (.string a1_1) := (blk_cell BK701.out 1).trans rfl; have hfz9_0 := blk_frozen BK701.out 0; have hfz9_1 := blk_frozen BK701.out 1))
   go_ret
   exact ⟨zq3, (by repeat (first | (with_reducible first | exact HB.out | apply zA | apply zN | apply zD | refine below_set ?_ GE700.out | refine below_set ?_ GE701.out) | exact HB.out))⟩
  rw [if_neg c4] at H
  have c4b0 : (a0_1.toList == a1_1.toList) = false := beq_eq_false_iff_ne.mpr c4
  have c4b1 : (a0_1.toList != a1_1.toList) = true := bne_iff_ne.mpr c4
  obtain rfl := Option.some.inj H
  go_enter Tryz.func26, Tryz.ntmps26
  go_wp2_with (first | ((with_reducible refine gate_dst (N := 2) rfl ?_); refine box_event ?hg (N := 2) ?hd (cs := #[.int .i64 a0_0, .string a0_1]) (t := 43) ?hr ?_; (case hd => rfl); (case hg => rfl); (case hr => first | (go_simp; done) | (go_simp; rfl)); intro gb700 hg w10 hbox hb; have n0_ := zK (below_step zq0 hb); have n1_ := zK (hbox); have n2_ := zK ((by rw [hg]; exact (below_size zq0) : w.heap.size ≤ gb700)); have n3_ := zK ((by rw [hg]; exact (below_size zq0) : w.heap.size ≤ gb700)); clear HB; have HB := n0_; have BK700 := n1_; have GW700 := n2_; have GE700 := n3_; clear n0_ n1_ n2_ n3_; clear hb hbox hg) | ((with_reducible refine gate_dst (N := 3) rfl ?_); refine box_event ?hg (N := 3) ?hd (cs := #[.int .i64 a1_0, .string a1_1]) (t := 43) ?hr ?_; (case hd => rfl); (case hg => rfl); (case hr => first | (go_simp; done) | (go_simp; rfl)); intro gb701 hg w11 hbox hb; have n0_ := zK (blk_below (g := gb700) (o := .cells #[.int .i64 a0_0, .string a0_1] 43 (0, 0)) (by (with_reducible repeat (first | refine zM ?_ _ | refine zP ?_ | refine zQ ?_ _)); exact BK700.out) hb); have n1_ := zK (below_step (by repeat (first | (with_reducible first | exact HB.out | apply zA | apply zN | apply zD | refine below_set ?_ GE700.out) | exact HB.out)) hb); have n2_ := zK (hbox); have n3_ := zK ((by rw [hg]; exact (below_size (by repeat (first | (with_reducible first | exact HB.out | apply zA | apply zN | apply zD | refine below_set ?_ GE700.out) | exact HB.out))) : w.heap.size ≤ gb701)); have n4_ := zK ((by rw [hg]; exact (below_size (by repeat (first | (with_reducible first | exact HB.out | apply zA | apply zN | apply zD | refine below_set ?_ GE700.out) | exact HB.out))) : w.heap.size ≤ gb701)); have n5_ := zK ((by rw [hg]; exact Nat.ne_of_lt (blk_lt (g := gb700) (o := .cells #[.int .i64 a0_0, .string a0_1] 43 (0, 0)) (by (with_reducible repeat (first | refine zM ?_ _ | refine zP ?_ | refine zQ ?_ _)); exact BK700.out)) : gb700 ≠ gb701)); have n6_ := zK ((by rw [hg]; exact Nat.ne_of_gt (blk_lt (g := gb700) (o := .cells #[.int .i64 a0_0, .string a0_1] 43 (0, 0)) (by (with_reducible repeat (first | refine zM ?_ _ | refine zP ?_ | refine zQ ?_ _)); exact BK700.out)) : gb701 ≠ gb700)); clear BK700; clear HB; have BK700 := n0_; have HB := n1_; have BK701 := n2_; have GW701 := n3_; have GE701 := n4_; have NB700_701 := n5_; have NB701_700 := n6_; clear n0_ n1_ n2_ n3_ n4_ n5_ n6_; clear hb hbox hg; have hnb12 := NB700_701.out; have hnc12 := NB701_700.out; have hcz13_0 : w11.cell? ⟨gb700, 0, none⟩ = some (.int .i64 a0_0) := (blk_cell BK700.out 0).trans rfl; have hcz13_1 : w11.cell? ⟨gb700, 1, none⟩ = some (.string a0_1) := (blk_cell BK700.out 1).trans rfl; have hfz13_0 := blk_frozen BK700.out 0; have hfz13_1 := blk_frozen BK700.out 1; have hcz14_0 : w11.cell? ⟨gb701, 0, none⟩ = some (.int .i64 a1_0) := (blk_cell BK701.out 0).trans rfl; have hcz14_1 : w11.cell? ⟨gb701, 1, none⟩ = some (.string a1_1) := (blk_cell BK701.out 1).trans rfl; have hfz14_0 := blk_frozen BK701.out 0; have hfz14_1 := blk_frozen BK701.out 1))
  go_ret
  exact ⟨zq3, (by repeat (first | (with_reducible first | exact HB.out | apply zA | apply zN | apply zD | refine below_set ?_ GE700.out | refine below_set ?_ GE701.out) | exact HB.out))⟩
 rw [if_neg c3] at H
 have c3b0 : (a0_0 == a1_0) = false := beq_eq_false_iff_ne.mpr c3
 have c3b1 : (a0_0 != a1_0) = true := bne_iff_ne.mpr c3
 obtain rfl := Option.some.inj H
 go_enter Tryz.func26, Tryz.ntmps26
 go_wp2_with (first | ((with_reducible refine gate_dst (N := 2) rfl ?_); refine box_event ?hg (N := 2) ?hd (cs := #[.int .i64 a0_0, .string a0_1]) (t := 43) ?hr ?_; (case hd => rfl); (case hg => rfl); (case hr => first | (go_simp; done) | (go_simp; rfl)); intro gb700 hg w15 hbox hb; have n0_ := zK (below_step zq0 hb); have n1_ := zK (hbox); have n2_ := zK ((by rw [hg]; exact (below_size zq0) : w.heap.size ≤ gb700)); have n3_ := zK ((by rw [hg]; exact (below_size zq0) : w.heap.size ≤ gb700)); clear HB; have HB := n0_; have BK700 := n1_; have GW700 := n2_; have GE700 := n3_; clear n0_ n1_ n2_ n3_; clear hb hbox hg) | ((with_reducible refine gate_dst (N := 3) rfl ?_); refine box_event ?hg (N := 3) ?hd (cs := #[.int .i64 a1_0, .string a1_1]) (t := 43) ?hr ?_; (case hd => rfl); (case hg => rfl); (case hr => first | (go_simp; done) | (go_simp; rfl)); intro gb701 hg w16 hbox hb; have n0_ := zK (blk_below (g := gb700) (o := .cells #[.int .i64 a0_0, .string a0_1] 43 (0, 0)) (by (with_reducible repeat (first | refine zM ?_ _ | refine zP ?_ | refine zQ ?_ _)); exact BK700.out) hb); have n1_ := zK (below_step (by repeat (first | (with_reducible first | exact HB.out | apply zA | apply zN | apply zD | refine below_set ?_ GE700.out) | exact HB.out)) hb); have n2_ := zK (hbox); have n3_ := zK ((by rw [hg]; exact (below_size (by repeat (first | (with_reducible first | exact HB.out | apply zA | apply zN | apply zD | refine below_set ?_ GE700.out) | exact HB.out))) : w.heap.size ≤ gb701)); have n4_ := zK ((by rw [hg]; exact (below_size (by repeat (first | (with_reducible first | exact HB.out | apply zA | apply zN | apply zD | refine below_set ?_ GE700.out) | exact HB.out))) : w.heap.size ≤ gb701)); have n5_ := zK ((by rw [hg]; exact Nat.ne_of_lt (blk_lt (g := gb700) (o := .cells #[.int .i64 a0_0, .string a0_1] 43 (0, 0)) (by (with_reducible repeat (first | refine zM ?_ _ | refine zP ?_ | refine zQ ?_ _)); exact BK700.out)) : gb700 ≠ gb701)); have n6_ := zK ((by rw [hg]; exact Nat.ne_of_gt (blk_lt (g := gb700) (o := .cells #[.int .i64 a0_0, .string a0_1] 43 (0, 0)) (by (with_reducible repeat (first | refine zM ?_ _ | refine zP ?_ | refine zQ ?_ _)); exact BK700.out)) : gb701 ≠ gb700)); clear BK700; clear HB; have BK700 := n0_; have HB := n1_; have BK701 := n2_; have GW701 := n3_; have GE701 := n4_; have NB700_701 := n5_; have NB701_700 := n6_; clear n0_ n1_ n2_ n3_ n4_ n5_ n6_; clear hb hbox hg; have hnb17 := NB700_701.out; have hnc17 := NB701_700.out; have hcz18_0 : w16.cell? ⟨gb700, 0, none⟩ = some (.int .i64 a0_0) := (blk_cell BK700.out 0).trans rfl; have hcz18_1 : w16.cell? ⟨gb700, 1, none⟩ = some (.string a0_1) := (blk_cell BK700.out 1).trans rfl; have hfz18_0 := blk_frozen BK700.out 0; have hfz18_1 := blk_frozen BK700.out 1; have hcz19_0 : w16.cell? ⟨gb701, 0, none⟩ = some (.int .i64 a1_0) := (blk_cell BK701.out 0).trans rfl; have hcz19_1 : w16.cell? ⟨gb701, 1, none⟩ = some (.string a1_1) := (blk_cell BK701.out 1).trans rfl; have hfz19_0 := blk_frozen BK701.out 0; have hfz19_1 := blk_frozen BK701.out 1))
 go_ret
 exact ⟨zq3, (by repeat (first | (with_reducible first | exact HB.out | apply zA | apply zN | apply zD | refine below_set ?_ GE700.out | refine below_set ?_ GE701.out) | exact HB.out))⟩
end Go.Proofs.YtpnoghcdfbmpoaaGreatDoor.PX
