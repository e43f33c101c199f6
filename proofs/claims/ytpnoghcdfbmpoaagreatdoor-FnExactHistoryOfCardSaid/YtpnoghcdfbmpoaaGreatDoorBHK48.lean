/- Texts of this claim set one behind another by wip/bundle.py: XHistE, PXf34, PXf13, PXf44, PXf35, PXf14, PXf4, XAncLaw, XHistV, XLawHistoryOf. -/
import Derived.Test.YtpnoghcdfbmpoaaGreatDoorBHK33
import Derived.Test.YtpnoghcdfbmpoaaGreatDoorBHK47
import Derived.Test.YtpnoghcdfbmpoaaGreatDoorBHK46
import Derived.Test.YtpnoghcdfbmpoaaGreatDoorBHK14
import Derived.Test.YtpnoghcdfbmpoaaGreatDoorBHK22
import Derived.Test.YtpnoghcdfbmpoaaGreatDoorBHK8
import Derived.Test.YtpnoghcdfbmpoaaGreatDoorBHK44
import Derived.Test.YtpnoghcdfbmpoaaGreatDoorBHK38
import Derived.Test.YtpnoghcdfbmpoaaGreatDoorBHK15
import Derived.Test.YtpnoghcdfbmpoaaGreatDoorBHK34
namespace Go.Proofs.YtpnoghcdfbmpoaaGreatDoor.PX.X
open Go Go.RowKit Go.Lib Go.Proofs.YtpnoghcdfbmpoaaGreatDoorW.PrintWords Go.Proofs.YtpnoghcdfbmpoaaGreatDoor.PX Go.Proofs.YtpnoghcdfbmpoaaGreatDoorX
set_option linter.unusedVariables false
def okO (l : List IObj) : Prop := l.length ≤ 200 ∧ (∀ x ∈ l, x.f2.size ≤ 1048576) ∧ ∀ i, i < l.length → ∀ j, j < l.length → i < j → lessB (oId (oAt l i)) (oId (oAt l j)) = true
instance (l : List IObj) : Decidable (okO l) := by unfold okO; infer_instance
theorem oAt_get {l : List IObj} {i : Nat} {x : IObj} (h : l[i]? = some x) : oAt l i = x := by unfold oAt; rw [List.getD_eq_getElem?_getD, h]; rfl
theorem okO_rising {l : List IObj} (h : okO l) : rising oId l := fun i j x y hij hx hy => by
 have := h.2.2 i (List.getElem?_eq_some_iff.1 hx).1 j (List.getElem?_eq_some_iff.1 hy).1 hij
 rwa [oAt_get hx, oAt_get hy] at this
def cmS (l : List IObj) (x : ByteArray) : CmR := (spec_l9Commit.f 9000001 l x).getD (⟨#[]⟩, [], 0, ⟨#[]⟩, 5)
def cmI (l : List IObj) (x : ByteArray) : CmR := (impl_commitOf.f 9000001 l x).getD (⟨#[]⟩, [], 0, ⟨#[]⟩, 5)
theorem cmS_eq {l : List IObj} (h : okO l) (x : ByteArray) : cmS l x = comV l x := by
 unfold cmS
 rw [spec_comV l x h.2.1 (okO_rising h) h.1 9000001 zq6]
 rfl
theorem cmI_eq {l : List IObj} (h : okO l) (x : ByteArray) : cmI l x = comV l x := by
 unfold cmI
 rw [impl_comV l x h.2.1 (okO_rising h) h.1 9000001 zq6]
 rfl
theorem cmS_all {l : List IObj} (h : okO l) {k : Nat} (hk : 9000000 < k) (x : ByteArray) : spec_l9Commit.f k l x = some (cmS l x) := by
 rw [cmS_eq h, spec_comV l x h.2.1 (okO_rising h) h.1 k hk]
theorem cmI_all {l : List IObj} (h : okO l) {k : Nat} (hk : 9000000 < k) (x : ByteArray) : impl_commitOf.f k l x = some (cmI l x) := by
 rw [cmI_eq h, impl_comV l x h.2.1 (okO_rising h) h.1 k zq6]
def histF (k : Nat) (l : List IObj) (id : ByteArray) : Option (List ByteArray × Int) := if 9000000 < k ∧ okO l then histS (cmS l) k id else none
def reachF (k : Nat) (l : List IObj) (T : List ByteArray) : Option (List ByteArray) := if (9000000 < k ∧ okO l) ∧ T.length ≤ 1048576 then (reachI (cmI l) k [] T).map sortB else none
end Go.Proofs.YtpnoghcdfbmpoaaGreatDoor.PX.X

namespace Go.Proofs.YtpnoghcdfbmpoaaGreatDoor.PX
open Go.RowKit Go.Proofs.YtpnoghcdfbmpoaaGreatDoorW.PrintWords Go.Proofs.YtpnoghcdfbmpoaaGreatDoorW.PrintLast Go.Proofs.YtpnoghcdfbmpoaaGreatDoorW.PrintMore
attribute [local go_sem] max2_int min2_int max_two min_two max_three min_three max_four min_four   -- for this text's walks alone
set_option linter.unusedVariables false
set_option linter.unusedSimpArgs false
def spec_l9History.f (k : Nat) (l0 : List (S50)) (a1 : ByteArray) : Option (List ByteArray × Int) := X.histF k l0 a1
theorem spec_l9History.calls (k : Nat) (A0 : Option Addr) (c0 : Nat) (l0 : List (S50)) (a1 : ByteArray) (r1 : List ByteArray) (r2 : Int) (w : World) (hr0 : Kd.C k50 w A0 l0.length l0) (hc0 : l0.length ≤ c0) (h : spec_l9History.f k l0 a1 = some (r1, r2)) :
  Calls Tryz.prog 34 #[.slice A0 l0.length c0, .string a1] w fun e w' => ∃ v0_ : Value, e = .returned (.tuple #[v0_, .int .i64 r2]) ∧ Kd.R Kd.string 9 w' w.heap.size (fun _ => True) v0_ r1 ∧ Below w.heap.size w w' := by
 unfold spec_l9History.f X.histF at h
 by_cases hk : 9000000 < k ∧ X.okO l0
 ·
  rw [if_pos hk] at h
  exact X.histS_calls k A0 c0 l0 a1 (X.cmS l0) w hr0 hc0 zq6 (X.cmS_all hk.2 hk.1) r1 r2 h
 rw [if_neg hk] at h
 cases h
def spec_HistoryOf.f (k : Nat) (l0 : List (S50)) (a1 : ByteArray) : Option (Int × List ByteArray) := (spec_StoreFault.f k l0).bind fun t500 => (if t500 = 0 then ((spec_l9History.f k l0 a1).bind fun bt501 => (some (bt501.2, bt501.1))) else (some (t500, ([] : List ByteArray))))
set_option maxHeartbeats 8000000 in
set_option maxRecDepth 100000 in
theorem spec_HistoryOf.calls (k : Nat) (A0 : Option Addr) (c0 : Nat) (l0 : List (S50)) (a1 : ByteArray) (r1 : Int) (r2 : List ByteArray) (w : World) (hr0 : Kd.C k50 w A0 l0.length l0) (hc0 : l0.length ≤ c0) (h : spec_HistoryOf.f k l0 a1 = some (r1, r2)) :
  Calls Tryz.prog 13 #[.slice A0 l0.length c0, .string a1] w fun e w' => ∃ v1_ : Value, e = .returned (.agg #[.int .i64 r1, v1_]) ∧ Kd.R Kd.string 9 w' w.heap.size (fun _ => True) v1_ r2 ∧ Below w.heap.size w w' := by
 have hu31 := Tryz.underlying31
 have HR0 := zK hr0
 have HC0 := zK hc0
 clear hr0 hc0
 have HB := zK (Below.refl w.heap.size w)
 have H : ((spec_StoreFault.f k l0).bind fun t500 => (if t500 = 0 then ((spec_l9History.f k l0 a1).bind fun bt501 => (some (bt501.2, bt501.1))) else (some (t500, ([] : List ByteArray))))) = some (r1, r2) := h
 clear h
 replace H := Option.bind_eq_some_iff.mp H
 obtain ⟨t500, A30, H⟩ := H
 replace H : (if t500 = 0 then ((spec_l9History.f k l0 a1).bind fun bt501 => (some (bt501.2, bt501.1))) else (some (t500, ([] : List ByteArray)))) = some (r1, r2) := H
 have A3 := zK A30
 clear A30
 by_cases c4 : t500 = 0
 ·
  rw [if_pos c4] at H
  have c4b0 : (t500 == 0) = true := beq_iff_eq.mpr c4
  have c4b1 : (t500 != 0) = false := bne_eq_false_iff_eq.mpr c4
  clear c4
  replace H := Option.bind_eq_some_iff.mp H
  obtain ⟨⟨t501, t502⟩, A50, H⟩ := H
  replace H : (some (t502, t501)) = some (r1, r2) := H
  have A5 := zK A50
  clear A50
  simp only [Option.some.injEq, Prod.mk.injEq] at H
  obtain ⟨rfl, rfl⟩ := H
  go_enter Tryz.func13, Tryz.ntmps13
  go_wp2_with (first | ((with_reducible refine gate_dst (N := 4) rfl ?_); refine box_event ?hg (N := 4) ?hd (cs := #[.int .i64 0, .slice none 0 0]) (t := 31) ?hr ?_; (case hd => rfl); (case hg => rfl); (case hr => first | (go_simp; done) | (go_simp; rfl)); intro gb499 hg w6 hbox hb; have n0_ := zK (below_step zq0 hb); have n1_ := zK (hbox); have n2_ := zK ((by rw [hg]; exact (below_size zq0) : w.heap.size ≤ gb499)); have n3_ := zK ((by rw [hg]; exact (below_size zq0) : w.heap.size ≤ gb499)); clear HB; have HB := n0_; have BK499 := n1_; have GW499 := n2_; have GE499 := n3_; clear n0_ n1_ n2_ n3_; clear hb hbox hg) | ((with_reducible refine gate_callee (f := 28) rfl ?_); refine goesL_ (some 9) rfl rfl Tryz.func28 zq5 rfl #[.slice A0 l0.length c0] rfl zq1 ?_; (with_reducible refine (spec_StoreFault.calls k _ _ l0 t500 _ ?side1 ?side2 A3.out).mono ?_); (case side1 => repeat (first | exact (Kd.C_below HR0.out HB.out) | (with_reducible refine Kd.C_alloc ?_ _) | (with_reducible refine Kd.C_drewN ?_ _) | (with_reducible refine Kd.C_drew ?_))); (case side2 => exact HC0.out); rintro e w7 ⟨rfl, hb⟩; refine ⟨_, rfl, ?_⟩; have n0_ := zK (blk_below (g := gb499) (o := .cells #[.int .i64 0, .slice none 0 0] 31 (0, 0)) (by (with_reducible repeat (first | refine zM ?_ _ | refine zP ?_ | refine zQ ?_ _)); exact BK499.out) hb); have n1_ := zK (below_step (by repeat (first | (with_reducible first | exact HB.out | apply zA | apply zN | apply zD | refine below_set ?_ GE499.out) | exact HB.out)) hb); clear BK499; clear HB; have BK499 := n0_; have HB := n1_; clear n0_ n1_; (try clear hb); (try clear hb2); (try clear hk); (try clear hi)) | ((with_reducible refine gate_callee (f := 34) rfl ?_); refine goesL_ (some 17) rfl rfl Tryz.func34 zq5 rfl #[.slice A0 l0.length c0, .string a1] rfl zq1 ?_; (with_reducible refine (spec_l9History.calls k _ _ l0 a1 t501 t502 _ ?side1 ?side2 A5.out).mono ?_); (case side1 => repeat (first | exact (Kd.C_below HR0.out HB.out) | (with_reducible refine Kd.C_alloc ?_ _) | (with_reducible refine Kd.C_drewN ?_ _) | (with_reducible refine Kd.C_drew ?_))); (case side2 => exact HC0.out); rintro e w8 ⟨v503, rfl, ho0, hb⟩; refine ⟨_, rfl, ?_⟩; have n0_ := zK (Kd.R_lower ho0 (below_size (by repeat (first | (with_reducible first | exact HB.out | apply zA | apply zN | apply zD | refine below_set ?_ GE499.out) | exact HB.out)))); have n1_ := zK (blk_below (g := gb499) (o := .cells #[.int .i64 0, .slice none 0 0] 31 (0, 0)) (by (with_reducible repeat (first | refine zM ?_ _ | refine zP ?_ | refine zQ ?_ _)); exact BK499.out) hb); have n2_ := zK (below_step (by repeat (first | (with_reducible first | exact HB.out | apply zA | apply zN | apply zD | refine below_set ?_ GE499.out) | exact HB.out)) hb); clear BK499; clear HB; have HO504 := n0_; have BK499 := n1_; have HB := n2_; clear n0_ n1_ n2_; (try clear hb); (try clear hb2); (try clear hk); (try clear hi); (try clear ho0); obtain ⟨Ao9, co9, eo9⟩ := Kd.R_slice HO504.out; subst eo9; have hcz10_0 : w8.cell? ⟨gb499, 0, none⟩ = some (.int .i64 0) := (blk_cell BK499.out 0).trans rfl; have hcz10_1 : w8.cell? ⟨gb499, 1, none⟩ = some (.slice none 0 0) := (blk_cell BK499.out 1).trans rfl; have hfz10_0 := blk_frozen BK499.out 0; have hfz10_1 := blk_frozen BK499.out 1))
  refine bodyPost_ret (results_cell_row rfl _ _ gb499 31 #[.int .i64 t502, .slice Ao9 t501.length co9] (0, 0) _ rfl (by (with_reducible repeat (first | refine zM ?_ _ | refine zP ?_ | refine zQ ?_ _)); refine blk_put (cs := #[.int .i64 t502, .slice none 0 0]) ?_ 1 _ rfl; (with_reducible repeat (first | refine zM ?_ _ | refine zP ?_ | refine zQ ?_ _)); refine blk_put (cs := #[.int .i64 0, .slice none 0 0]) ?_ 0 _ rfl; (with_reducible repeat (first | refine zM ?_ _ | refine zP ?_ | refine zQ ?_ _)); exact BK499.out) Tryz.underlying31 rfl zq5) rfl ?_
  exact ⟨_, zq3, (by (with_reducible repeat (first | apply zR | apply zV | apply zW)); exact Kd.R_mono (Kd.R_far (p := ⟨gb499, 1, none⟩) (Kd.R_far (p := ⟨gb499, 0, none⟩) (Kd.R_types HO504.out BK499.out zq9) (fun _ hk => hk.2) (.int .i64 t502)) (fun _ hk => hk.2) (.slice Ao9 t501.length co9)) (fun _ hk => trivial)), (by repeat (first | (with_reducible first | exact HB.out | apply zA | apply zN | apply zD | refine below_set ?_ GE499.out) | exact HB.out))⟩
 rw [if_neg c4] at H
 have c4b0 : (t500 == 0) = false := beq_eq_false_iff_ne.mpr c4
 have c4b1 : (t500 != 0) = true := bne_iff_ne.mpr c4
 simp only [Option.some.injEq, Prod.mk.injEq] at H
 obtain ⟨rfl, rfl⟩ := H
 go_enter Tryz.func13, Tryz.ntmps13
 go_wp2_with (first | ((with_reducible refine gate_dst (N := 4) rfl ?_); refine box_event ?hg (N := 4) ?hd (cs := #[.int .i64 0, .slice none 0 0]) (t := 31) ?hr ?_; (case hd => rfl); (case hg => rfl); (case hr => first | (go_simp; done) | (go_simp; rfl)); intro gb499 hg w11 hbox hb; have n0_ := zK (below_step zq0 hb); have n1_ := zK (hbox); have n2_ := zK ((by rw [hg]; exact (below_size zq0) : w.heap.size ≤ gb499)); have n3_ := zK ((by rw [hg]; exact (below_size zq0) : w.heap.size ≤ gb499)); clear HB; have HB := n0_; have BK499 := n1_; have GW499 := n2_; have GE499 := n3_; clear n0_ n1_ n2_ n3_; clear hb hbox hg) | ((with_reducible refine gate_callee (f := 28) rfl ?_); refine goesL_ (some 9) rfl rfl Tryz.func28 zq5 rfl #[.slice A0 l0.length c0] rfl zq1 ?_; (with_reducible refine (spec_StoreFault.calls k _ _ l0 t500 _ ?side1 ?side2 A3.out).mono ?_); (case side1 => repeat (first | exact (Kd.C_below HR0.out HB.out) | (with_reducible refine Kd.C_alloc ?_ _) | (with_reducible refine Kd.C_drewN ?_ _) | (with_reducible refine Kd.C_drew ?_))); (case side2 => exact HC0.out); rintro e w12 ⟨rfl, hb⟩; refine ⟨_, rfl, ?_⟩; have n0_ := zK (blk_below (g := gb499) (o := .cells #[.int .i64 0, .slice none 0 0] 31 (0, 0)) (by (with_reducible repeat (first | refine zM ?_ _ | refine zP ?_ | refine zQ ?_ _)); exact BK499.out) hb); have n1_ := zK (below_step (by repeat (first | (with_reducible first | exact HB.out | apply zA | apply zN | apply zD | refine below_set ?_ GE499.out) | exact HB.out)) hb); clear BK499; clear HB; have BK499 := n0_; have HB := n1_; clear n0_ n1_; (try clear hb); (try clear hb2); (try clear hk); (try clear hi); have hcz13_0 : w12.cell? ⟨gb499, 0, none⟩ = some (.int .i64 0) := (blk_cell BK499.out 0).trans rfl; have hcz13_1 : w12.cell? ⟨gb499, 1, none⟩ = some (.slice none 0 0) := (blk_cell BK499.out 1).trans rfl; have hfz13_0 := blk_frozen BK499.out 0; have hfz13_1 := blk_frozen BK499.out 1))
 refine bodyPost_ret (results_cell_row rfl _ _ gb499 31 #[.int .i64 t500, .slice none 0 0] (0, 0) _ rfl (by (with_reducible repeat (first | refine zM ?_ _ | refine zP ?_ | refine zQ ?_ _)); refine blk_put (cs := #[.int .i64 t500, .slice none 0 0]) ?_ 1 _ rfl; (with_reducible repeat (first | refine zM ?_ _ | refine zP ?_ | refine zQ ?_ _)); refine blk_put (cs := #[.int .i64 0, .slice none 0 0]) ?_ 0 _ rfl; (with_reducible repeat (first | refine zM ?_ _ | refine zP ?_ | refine zQ ?_ _)); exact BK499.out) Tryz.underlying31 rfl zq5) rfl ?_
 exact ⟨_, zq3, zq11, (by repeat (first | (with_reducible first | exact HB.out | apply zA | apply zN | apply zD | refine below_set ?_ GE499.out) | exact HB.out))⟩
def impl_reached.f (k : Nat) (l0 : List (S50)) (l1 : List ByteArray) : Option (List ByteArray) := X.reachF k l0 l1
theorem impl_reached.calls (k : Nat) (A0 : Option Addr) (c0 : Nat) (l0 : List (S50)) (A1 : Option Addr) (c1 : Nat) (l1 : List ByteArray) (r : List ByteArray) (w : World) (hr0 : Kd.C k50 w A0 l0.length l0) (hc0 : l0.length ≤ c0) (hr1 : Kd.C Kd.string w A1 l1.length l1) (hc1 : l1.length ≤ c1) (hG : Gt w) (h : impl_reached.f k l0 l1 = some r) :
  Calls Tryz.prog 44 #[.slice A0 l0.length c0, .slice A1 l1.length c1] w fun e w' => ∃ v0_ : Value, e = .returned (v0_) ∧ Kd.R Kd.string 9 w' w.heap.size (fun _ => True) v0_ r ∧ Below w.heap.size w w' := by
 unfold impl_reached.f X.reachF at h
 by_cases hk : (9000000 < k ∧ X.okO l0) ∧ l1.length ≤ 1048576
 ·
  rw [if_pos hk] at h
  obtain ⟨q, hq, rfl⟩ := Option.map_eq_some_iff.1 h
  exact X.reached_calls k A0 c0 l0 A1 c1 l1 (X.cmI l0) w hr0 hc0 hG hr1 hk.2 (X.cmI_all hk.1.2 hk.1.1) q hq
 rw [if_neg hk] at h
 cases h
def impl_historyOf.l0 : Nat → List (S50) → List ByteArray → List ByteArray → Int → Int → Option (List ByteArray × Int)
 | 0, _, _, _, _, _ => none
 | k + 1, x0, x6, x18, x19, x20 => if x20 < x19 then (if 0 ≤ x20 then (if x20 < (x18.length : Int) then ((impl_commitOf.f k x0 (rdOf ByteArray.empty x18 x20)).bind fun bt466 => (if bt466.2.2.2.2 = 0 then (impl_historyOf.l0 k x0 x6 x18 x19 (wrap64 (x20 + 1))) else (some (([] : List ByteArray), bt466.2.2.2.2)))) else (none)) else (none)) else (some (x6, 0))
def impl_historyOf.f (k : Nat) (l0 : List (S50)) (a1 : ByteArray) : Option (List ByteArray × Int) := (impl_reached.f k l0 (([a1] : List ByteArray))).bind fun t462 => (if (t462.length : Int) > 100 then (some (([] : List ByteArray), 2)) else (impl_historyOf.l0 k l0 t462 t462 (t462.length : Int) 0))
set_option maxHeartbeats 8000000 in
set_option maxRecDepth 100000 in
theorem impl_historyOf.calls (k : Nat) (A0 : Option Addr) (c0 : Nat) (l0 : List (S50)) (a1 : ByteArray) (r1 : List ByteArray) (r2 : Int) (w : World) (hr0 : Kd.C k50 w A0 l0.length l0) (hc0 : l0.length ≤ c0) (hG : Gt w) (h : impl_historyOf.f k l0 a1 = some (r1, r2)) :
  Calls Tryz.prog 35 #[.slice A0 l0.length c0, .string a1] w fun e w' => ∃ v0_ : Value, e = .returned (.tuple #[v0_, .int .i64 r2]) ∧ Kd.R Kd.string 9 w' w.heap.size (fun _ => True) v0_ r1 ∧ Below w.heap.size w w' := by
 have HG := zK hG
 clear hG
 have hu60 := Tryz.underlying60
 have HR0 := zK hr0
 have HC0 := zK hc0
 clear hr0 hc0
 have HB := zK (Below.refl w.heap.size w)
 have H : ((impl_reached.f k l0 (([a1] : List ByteArray))).bind fun t462 => (if (t462.length : Int) > 100 then (some (([] : List ByteArray), 2)) else (impl_historyOf.l0 k l0 t462 t462 (t462.length : Int) 0))) = some (r1, r2) := h
 clear h
 obtain ⟨y459, hy459⟩ : ∃ y_ : List ByteArray, y_ = (([a1] : List ByteArray)) := ⟨_, rfl⟩
 replace H : ((impl_reached.f k l0 y459).bind fun t462 => (if (t462.length : Int) > 100 then (some (([] : List ByteArray), 2)) else (impl_historyOf.l0 k l0 t462 t462 (t462.length : Int) 0))) = some (r1, r2) := by first | (rw [hy459]; with_reducible exact H) | (have H2_ := (Option.bind_some _ _).symm.trans H; rw [hy459]; with_reducible exact H2_) | (have H2_ := (Option.bind_some _ _).symm.trans H; with_reducible exact H2_) | with_reducible exact H | (rw [hy459]; exact H) | exact H
 have Ny459 := zK hy459
 clear hy459
 replace H := Option.bind_eq_some_iff.mp H
 obtain ⟨t462, A30, H⟩ := H
 replace H : (if (t462.length : Int) > 100 then (some (([] : List ByteArray), 2)) else (impl_historyOf.l0 k l0 t462 t462 (t462.length : Int) 0)) = some (r1, r2) := H
 have A3 := zK A30
 clear A30
 by_cases c4 : (t462.length : Int) > 100
 ·
  rw [if_pos c4] at H
  have c4b0 : decide (100 < (t462.length : Int)) = true := decide_eq_true c4
  have c4b1 : decide (100 < t462.length) = true := decide_eq_true zq6
  clear c4
  simp only [Option.some.injEq, Prod.mk.injEq] at H
  obtain ⟨rfl, rfl⟩ := H
  go_enter Tryz.func35, Tryz.ntmps35
  go_wp2_with (first | ((with_reducible refine gate_dst (N := 13) rfl ?_); refine Kd.R_lit Kd.string _ 9 ?hg (N := 13) ?hd (xs := ([a1] : List ByteArray)) (inner := [.string a1]) (ok := fun _ => True) (okp := fun _ => True) ?hr ?hp (fun _ hk => hk) trivial (Below.refl _ _) (Nat.le_refl _) zq13 ?_; (case hd => rfl); (case hg => rfl); (case hr => first | (go_simp; done) | (go_simp; rfl)); (case hp => exact (Reps.one (show Kd.M Kd.string _ _ _ a1 [.string a1] from rfl) (Reps.none _ _))); intro v460 w5 ho6 hb hg_ hnew_; clear hg_ hnew_; (first | rw [← Ny459.out] at ho6 | (simp only [Int.reduceToNat] at ho6; rw [← Ny459.out] at ho6)); have n0_ := zK (Kd.R_lower ho6 (below_size zq0)); have n1_ := zK (below_step zq0 hb); clear HB; have HO461 := n0_; have HB := n1_; clear n0_ n1_; clear hb ho6; obtain ⟨Ao7, co7, eo7⟩ := Kd.R_slice HO461.out; subst eo7) | ((with_reducible refine gate_callee (f := 44) rfl ?_); refine goesL_ (some 14) rfl rfl Tryz.func44 zq5 rfl #[.slice A0 l0.length c0, .slice Ao7 y459.length co7] rfl zq1 ?_; (with_reducible refine (impl_reached.calls k _ _ l0 _ _ y459 t462 _ ?side1 ?side2 ?side3 ?side4 (Gt.below HG.out zq0) A3.out).mono ?_); (case side1 => repeat (first | exact (Kd.C_below HR0.out HB.out) | (with_reducible refine Kd.C_alloc ?_ _) | (with_reducible refine Kd.C_drewN ?_ _) | (with_reducible refine Kd.C_drew ?_))); (case side2 => exact HC0.out); (case side3 => repeat (first | exact (Kd.R_reads' HO461.out).2.2 | (with_reducible refine Kd.C_alloc ?_ _) | (with_reducible refine Kd.C_drewN ?_ _) | (with_reducible refine Kd.C_drew ?_))); (case side4 => exact (Kd.R_reads' HO461.out).2.1); rintro e w8 ⟨v463, rfl, ho0, hb⟩; refine ⟨_, rfl, ?_⟩; have n0_ := zK (Kd.R_elder' zq28 (Kd.R_base ho0) hb); have n1_ := zK (Kd.R_lower (Kd.R_new' ho0 (Kd.R_lt zq28)) (below_size zq0)); have n2_ := zK (below_step zq0 hb); clear HO461; clear HB; have HO461 := n0_; have HO464 := n1_; have HB := n2_; clear n0_ n1_ n2_; (try clear hb); (try clear hb2); (try clear hk); (try clear hi); (try clear ho0); obtain ⟨Ao9, co9, eo9⟩ := Kd.R_slice HO464.out; subst eo9))
  go_ret2
  exact ⟨_, zq3, zq11, zq0⟩
 rw [if_neg c4] at H
 have c4b0 : decide (100 < (t462.length : Int)) = false := decide_eq_false c4
 have c4b1 : decide (100 < t462.length) = false := decide_eq_false zq6
 clear c4
 have H' := zK H
 clear H
 go_enter Tryz.func35, Tryz.ntmps35
 go_wp2_with (first | ((with_reducible refine gate_dst (N := 13) rfl ?_); refine Kd.R_lit Kd.string _ 9 ?hg (N := 13) ?hd (xs := ([a1] : List ByteArray)) (inner := [.string a1]) (ok := fun _ => True) (okp := fun _ => True) ?hr ?hp (fun _ hk => hk) trivial (Below.refl _ _) (Nat.le_refl _) zq13 ?_; (case hd => rfl); (case hg => rfl); (case hr => first | (go_simp; done) | (go_simp; rfl)); (case hp => exact (Reps.one (show Kd.M Kd.string _ _ _ a1 [.string a1] from rfl) (Reps.none _ _))); intro v460 w10 ho11 hb hg_ hnew_; clear hg_ hnew_; (first | rw [← Ny459.out] at ho11 | (simp only [Int.reduceToNat] at ho11; rw [← Ny459.out] at ho11)); have n0_ := zK (Kd.R_lower ho11 (below_size zq0)); have n1_ := zK (below_step zq0 hb); clear HB; have HO461 := n0_; have HB := n1_; clear n0_ n1_; clear hb ho11; obtain ⟨Ao12, co12, eo12⟩ := Kd.R_slice HO461.out; subst eo12) | ((with_reducible refine gate_callee (f := 44) rfl ?_); refine goesL_ (some 14) rfl rfl Tryz.func44 zq5 rfl #[.slice A0 l0.length c0, .slice Ao12 y459.length co12] rfl zq1 ?_; (with_reducible refine (impl_reached.calls k _ _ l0 _ _ y459 t462 _ ?side1 ?side2 ?side3 ?side4 (Gt.below HG.out zq0) A3.out).mono ?_); (case side1 => repeat (first | exact (Kd.C_below HR0.out HB.out) | (with_reducible refine Kd.C_alloc ?_ _) | (with_reducible refine Kd.C_drewN ?_ _) | (with_reducible refine Kd.C_drew ?_))); (case side2 => exact HC0.out); (case side3 => repeat (first | exact (Kd.R_reads' HO461.out).2.2 | (with_reducible refine Kd.C_alloc ?_ _) | (with_reducible refine Kd.C_drewN ?_ _) | (with_reducible refine Kd.C_drew ?_))); (case side4 => exact (Kd.R_reads' HO461.out).2.1); rintro e w13 ⟨v463, rfl, ho0, hb⟩; refine ⟨_, rfl, ?_⟩; have n0_ := zK (Kd.R_elder' zq28 (Kd.R_base ho0) hb); have n1_ := zK (Kd.R_lower (Kd.R_new' ho0 (Kd.R_lt zq28)) (below_size zq0)); have n2_ := zK (below_step zq0 hb); clear HO461; clear HB; have HO461 := n0_; have HO464 := n1_; have HB := n2_; clear n0_ n1_ n2_; (try clear hb); (try clear hb2); (try clear hk); (try clear hi); (try clear ho0); obtain ⟨Ao14, co14, eo14⟩ := Kd.R_slice HO464.out; subst eo14))
 go_loopg [20] k (fun kq v20 w' => ∃ (x20_1 : Int), v20 = .int .i64 x20_1 ∧ Aside0 (impl_historyOf.l0 kq l0 t462 t462 (t462.length : Int) x20_1 = some (r1, r2)) ∧ Aside0 (kq ≤ k) ∧ Aside0 (Kd.R Kd.string 9 w' w.heap.size (fun _ => True) (.slice Ao14 t462.length co14) t462) ∧ Aside0 (Kd.R Kd.string 9 w' w.heap.size (fun _ => True) (.slice Ao14 t462.length co14) t462) ∧ Aside0 (Below w.heap.size w w'))
 case atStart => exact ⟨(0), zq4, H', ⟨Nat.le_refl _⟩, ⟨by (with_reducible repeat (first | apply zR | apply zV | apply zW)); exact Kd.R_mono HO464.out (fun _ hk => trivial)⟩, ⟨by (with_reducible repeat (first | apply zR | apply zV | apply zW)); exact Kd.R_mono HO464.out (fun _ hk => trivial)⟩, ⟨by repeat (first | (with_reducible first | exact HB.out | apply zA | apply zN | apply zD) | exact HB.out)⟩⟩
 case round =>
  clear H'
  try clear p2
  try clear c3
  try clear c4
  try clear c4b0
  try clear c4b1
  obtain ⟨x20_1, rfl, HA, HK1, HO_6, HO_18, HB⟩ := hrel
  cases gk with
  | zero => exact absurd HA.out (by simp [impl_historyOf.l0])
  | succ k1 =>
   have H := HA.out
   clear HA
   simp only [impl_historyOf.l0] at H
   by_cases c15 : x20_1 < (t462.length : Int)
   ·
    rw [if_pos c15] at H
    have c15b0 : decide (x20_1 < (t462.length : Int)) = true := decide_eq_true c15
    clear c15
    by_cases c16 : 0 ≤ x20_1
    ·
     rw [if_pos c16] at H
     have c16b0 : decide (0 ≤ x20_1) = true := decide_eq_true c16
     clear c16
     by_cases c17 : x20_1 < (t462.length : Int)
     ·
      rw [if_pos c17] at H
      have c17b0 : decide (x20_1 < (t462.length : Int)) = true := decide_eq_true c17
      clear c17
      replace H := Option.bind_eq_some_iff.mp H
      obtain ⟨⟨t466, t467, t470, t471, t472⟩, A180, H⟩ := H
      replace H : (if t472 = 0 then (impl_historyOf.l0 k1 l0 t462 t462 (t462.length : Int) (wrap64 (x20_1 + 1))) else (some (([] : List ByteArray), t472))) = some (r1, r2) := H
      have A18 := zK A180
      clear A180
      by_cases c19 : t472 = 0
      ·
       rw [if_pos c19] at H
       have c19b0 : (t472 == 0) = true := beq_iff_eq.mpr c19
       have c19b1 : (t472 != 0) = false := bne_eq_false_iff_eq.mpr c19
       clear c19
       have H' := zK H
       clear H
       have p465 : 0 ≤ (x20_1 : Int) := zX zq2
       have q465 : x20_1 < (t462.length : Int) := zX zq2
       obtain ⟨ad465, e465, hx465_0⟩ := Kd.at_string (Kd.R_reads' HO_18.out).2.2 x20_1 p465 q465
       cases e465
       replace p465 := eq_true p465
       replace q465 := eq_true q465
       go_wp2_with (first | ((with_reducible refine gate_callee (f := 42) rfl ?_); refine goesL_ (some 27) rfl rfl Tryz.func42 zq5 rfl #[.slice A0 l0.length c0, .string (rdOf ByteArray.empty t462 x20_1)] rfl zq1 ?_; (with_reducible refine (impl_commitOf.calls k1 _ _ l0 (rdOf ByteArray.empty t462 x20_1) t466 t467 t470 t471 t472 _ ?side1 ?side2 (Gt.below HG.out zq0) A18.out).mono ?_); (case side1 => repeat (first | exact (Kd.C_below HR0.out HB.out) | (with_reducible refine Kd.C_alloc ?_ _) | (with_reducible refine Kd.C_drewN ?_ _) | (with_reducible refine Kd.C_drew ?_))); (case side2 => exact HC0.out); rintro e w20 ⟨v468, rfl, ho0, hb⟩; refine ⟨_, rfl, ?_⟩; have n0_ := zK (Kd.R_elder' zq17 (Kd.R_base ho0) hb); have n1_ := zK (Kd.R_elder' zq20 (Kd.R_base ho0) hb); have n2_ := zK (Kd.R_lower (Kd.R_new' (Kd.R_new' ho0 (Kd.R_lt zq17)) (Kd.R_lt zq20)) (below_size zq0)); have n3_ := zK (below_step zq0 hb); clear HO_6; clear HO_18; clear HB; have HO_6 := n0_; have HO_18 := n1_; have HO469 := n2_; have HB := n3_; clear n0_ n1_ n2_ n3_; (try clear hb); (try clear hb2); (try clear hk); (try clear hi); (try clear ho0)) | ((with_reducible refine gate_dst (N := 9) rfl ?_); refine box_event ?hg (N := 9) ?hd (cs := #[.string (⟨#[]⟩ : ByteArray), .slice none 0 0, .int .i64 0, .string (⟨#[]⟩ : ByteArray)]) (t := 60) ?hr ?_; (case hd => rfl); (case hg => rfl); (case hr => first | (go_simp; done) | (go_simp; rfl)); intro gb473 hg w21 hbox hb; have n0_ := zK (Kd.R_below zq17 hb); have n1_ := zK (Kd.R_below zq20 hb); have n2_ := zK (Kd.R_below (by (with_reducible repeat (first | apply zR | apply zV | apply zW)); exact HO469.out) hb); have n3_ := zK (below_step zq0 hb); have n4_ := zK (hbox); have n5_ := zK ((by rw [hg]; exact (below_size zq0) : w.heap.size ≤ gb473)); have n6_ := zK ((by rw [hg]; exact (below_size zq0) : w.heap.size ≤ gb473)); clear HO_6; clear HO_18; clear HO469; clear HB; have HO_6 := n0_; have HO_18 := n1_; have HO469 := n2_; have HB := n3_; have BK473 := n4_; have GW473 := n5_; have GE473 := n6_; clear n0_ n1_ n2_ n3_ n4_ n5_ n6_; clear hb hbox hg; have hcz22_0 : w21.cell? ⟨gb473, 0, none⟩ = some (.string (⟨#[]⟩ : ByteArray)) := (blk_cell BK473.out 0).trans rfl; have hcz22_1 : w21.cell? ⟨gb473, 1, none⟩ = some (.slice none 0 0) := (blk_cell BK473.out 1).trans rfl; have hcz22_2 : w21.cell? ⟨gb473, 2, none⟩ = some (.int .i64 0) := (blk_cell BK473.out 2).trans rfl; have hcz22_3 : w21.cell? ⟨gb473, 3, none⟩ = some (.string (⟨#[]⟩ : ByteArray)) := (blk_cell BK473.out 3).trans rfl; have hfz22_0 := blk_frozen BK473.out 0; have hfz22_1 := blk_frozen BK473.out 1; have hfz22_2 := blk_frozen BK473.out 2; have hfz22_3 := blk_frozen BK473.out 3; obtain ⟨Ao23, co23, eo23⟩ := Kd.R_slice HO469.out; subst eo23))
       go_roundg k1
       case measure => have := HK1.out; omega
       case rel => exact ⟨(wrap64 (x20_1 + 1)), zq4, H', ⟨by have := HK1.out; omega⟩, ⟨by (with_reducible repeat (first | apply zR | apply zV | apply zW)); exact Kd.R_mono (Kd.R_far (p := ⟨gb473, 3, none⟩) (Kd.R_far (p := ⟨gb473, 2, none⟩) (Kd.R_far (p := ⟨gb473, 1, none⟩) (Kd.R_far (p := ⟨gb473, 0, none⟩) (Kd.R_types HO_6.out BK473.out zq9) (fun _ hk => hk.2) (.string t466)) (fun _ hk => hk.2) (.slice Ao23 t467.length co23)) (fun _ hk => hk.2) (.int .i64 t470)) (fun _ hk => hk.2) (.string t471)) (fun _ hk => trivial)⟩, ⟨by (with_reducible repeat (first | apply zR | apply zV | apply zW)); exact Kd.R_mono (Kd.R_far (p := ⟨gb473, 3, none⟩) (Kd.R_far (p := ⟨gb473, 2, none⟩) (Kd.R_far (p := ⟨gb473, 1, none⟩) (Kd.R_far (p := ⟨gb473, 0, none⟩) (Kd.R_types HO_18.out BK473.out zq9) (fun _ hk => hk.2) (.string t466)) (fun _ hk => hk.2) (.slice Ao23 t467.length co23)) (fun _ hk => hk.2) (.int .i64 t470)) (fun _ hk => hk.2) (.string t471)) (fun _ hk => trivial)⟩, ⟨by repeat (first | (with_reducible first | exact HB.out | apply zA | apply zN | apply zD | refine below_set ?_ GE473.out) | exact HB.out)⟩⟩
      rw [if_neg c19] at H
      have c19b0 : (t472 == 0) = false := beq_eq_false_iff_ne.mpr c19
      have c19b1 : (t472 != 0) = true := bne_iff_ne.mpr c19
      simp only [Option.some.injEq, Prod.mk.injEq] at H
      obtain ⟨rfl, rfl⟩ := H
      have p465 : 0 ≤ (x20_1 : Int) := zX zq2
      have q465 : x20_1 < (t462.length : Int) := zX zq2
      obtain ⟨ad465, e465, hx465_0⟩ := Kd.at_string (Kd.R_reads' HO_18.out).2.2 x20_1 p465 q465
      cases e465
      replace p465 := eq_true p465
      replace q465 := eq_true q465
      go_wp2_with (first | ((with_reducible refine gate_callee (f := 42) rfl ?_); refine goesL_ (some 27) rfl rfl Tryz.func42 zq5 rfl #[.slice A0 l0.length c0, .string (rdOf ByteArray.empty t462 x20_1)] rfl zq1 ?_; (with_reducible refine (impl_commitOf.calls k1 _ _ l0 (rdOf ByteArray.empty t462 x20_1) t466 t467 t470 t471 t472 _ ?side1 ?side2 (Gt.below HG.out zq0) A18.out).mono ?_); (case side1 => repeat (first | exact (Kd.C_below HR0.out HB.out) | (with_reducible refine Kd.C_alloc ?_ _) | (with_reducible refine Kd.C_drewN ?_ _) | (with_reducible refine Kd.C_drew ?_))); (case side2 => exact HC0.out); rintro e w24 ⟨v468, rfl, ho0, hb⟩; refine ⟨_, rfl, ?_⟩; have n0_ := zK (Kd.R_elder' zq17 (Kd.R_base ho0) hb); have n1_ := zK (Kd.R_elder' zq20 (Kd.R_base ho0) hb); have n2_ := zK (Kd.R_lower (Kd.R_new' (Kd.R_new' ho0 (Kd.R_lt zq17)) (Kd.R_lt zq20)) (below_size zq0)); have n3_ := zK (below_step zq0 hb); clear HO_6; clear HO_18; clear HB; have HO_6 := n0_; have HO_18 := n1_; have HO469 := n2_; have HB := n3_; clear n0_ n1_ n2_ n3_; (try clear hb); (try clear hb2); (try clear hk); (try clear hi); (try clear ho0)) | ((with_reducible refine gate_dst (N := 9) rfl ?_); refine box_event ?hg (N := 9) ?hd (cs := #[.string (⟨#[]⟩ : ByteArray), .slice none 0 0, .int .i64 0, .string (⟨#[]⟩ : ByteArray)]) (t := 60) ?hr ?_; (case hd => rfl); (case hg => rfl); (case hr => first | (go_simp; done) | (go_simp; rfl)); intro gb473 hg w25 hbox hb; have n0_ := zK (Kd.R_below zq17 hb); have n1_ := zK (Kd.R_below zq20 hb); have n2_ := zK (Kd.R_below (by (with_reducible repeat (first | apply zR | apply zV | apply zW)); exact HO469.out) hb); have n3_ := zK (below_step zq0 hb); have n4_ := zK (hbox); have n5_ := zK ((by rw [hg]; exact (below_size zq0) : w.heap.size ≤ gb473)); have n6_ := zK ((by rw [hg]; exact (below_size zq0) : w.heap.size ≤ gb473)); clear HO_6; clear HO_18; clear HO469; clear HB; have HO_6 := n0_; have HO_18 := n1_; have HO469 := n2_; have HB := n3_; have BK473 := n4_; have GW473 := n5_; have GE473 := n6_; clear n0_ n1_ n2_ n3_ n4_ n5_ n6_; clear hb hbox hg; have hcz26_0 : w25.cell? ⟨gb473, 0, none⟩ = some (.string (⟨#[]⟩ : ByteArray)) := (blk_cell BK473.out 0).trans rfl; have hcz26_1 : w25.cell? ⟨gb473, 1, none⟩ = some (.slice none 0 0) := (blk_cell BK473.out 1).trans rfl; have hcz26_2 : w25.cell? ⟨gb473, 2, none⟩ = some (.int .i64 0) := (blk_cell BK473.out 2).trans rfl; have hcz26_3 : w25.cell? ⟨gb473, 3, none⟩ = some (.string (⟨#[]⟩ : ByteArray)) := (blk_cell BK473.out 3).trans rfl; have hfz26_0 := blk_frozen BK473.out 0; have hfz26_1 := blk_frozen BK473.out 1; have hfz26_2 := blk_frozen BK473.out 2; have hfz26_3 := blk_frozen BK473.out 3; obtain ⟨Ao27, co27, eo27⟩ := Kd.R_slice HO469.out; subst eo27))
      go_ret2
      exact ⟨_, zq3, zq11, (by repeat (first | (with_reducible first | exact HB.out | apply zA | apply zN | apply zD | refine below_set ?_ GE473.out) | exact HB.out))⟩
     rw [if_neg c17] at H
     exact absurd H zq13
    rw [if_neg c16] at H
    exact absurd H zq13
   rw [if_neg c15] at H
   have c15b0 : decide (x20_1 < (t462.length : Int)) = false := decide_eq_false c15
   clear c15
   simp only [Option.some.injEq, Prod.mk.injEq] at H
   obtain ⟨rfl, rfl⟩ := H
   go_wp2
   go_ret2
   exact ⟨_, zq3, zq17, zq0⟩
def impl_HistoryOf.f (k : Nat) (l0 : List (S50)) (a1 : ByteArray) : Option (Int × List ByteArray) := (impl_StoreFault.f k l0).bind fun t506 => (if t506 = 0 then ((impl_historyOf.f k l0 a1).bind fun bt507 => (some (bt507.2, bt507.1))) else (some (t506, ([] : List ByteArray))))
set_option maxHeartbeats 8000000 in
set_option maxRecDepth 100000 in
theorem impl_HistoryOf.calls (k : Nat) (A0 : Option Addr) (c0 : Nat) (l0 : List (S50)) (a1 : ByteArray) (r1 : Int) (r2 : List ByteArray) (w : World) (hr0 : Kd.C k50 w A0 l0.length l0) (hc0 : l0.length ≤ c0) (hG : Gt w) (h : impl_HistoryOf.f k l0 a1 = some (r1, r2)) :
  Calls Tryz.prog 14 #[.slice A0 l0.length c0, .string a1] w fun e w' => ∃ v1_ : Value, e = .returned (.agg #[.int .i64 r1, v1_]) ∧ Kd.R Kd.string 9 w' w.heap.size (fun _ => True) v1_ r2 ∧ Below w.heap.size w w' := by
 have HG := zK hG
 clear hG
 have hu31 := Tryz.underlying31
 have HR0 := zK hr0
 have HC0 := zK hc0
 clear hr0 hc0
 have HB := zK (Below.refl w.heap.size w)
 have H : ((impl_StoreFault.f k l0).bind fun t506 => (if t506 = 0 then ((impl_historyOf.f k l0 a1).bind fun bt507 => (some (bt507.2, bt507.1))) else (some (t506, ([] : List ByteArray))))) = some (r1, r2) := h
 clear h
 replace H := Option.bind_eq_some_iff.mp H
 obtain ⟨t506, A30, H⟩ := H
 replace H : (if t506 = 0 then ((impl_historyOf.f k l0 a1).bind fun bt507 => (some (bt507.2, bt507.1))) else (some (t506, ([] : List ByteArray)))) = some (r1, r2) := H
 have A3 := zK A30
 clear A30
 by_cases c4 : t506 = 0
 ·
  rw [if_pos c4] at H
  have c4b0 : (t506 == 0) = true := beq_iff_eq.mpr c4
  have c4b1 : (t506 != 0) = false := bne_eq_false_iff_eq.mpr c4
  clear c4
  replace H := Option.bind_eq_some_iff.mp H
  obtain ⟨⟨t507, t508⟩, A50, H⟩ := H
  replace H : (some (t508, t507)) = some (r1, r2) := H
  have A5 := zK A50
  clear A50
  simp only [Option.some.injEq, Prod.mk.injEq] at H
  obtain ⟨rfl, rfl⟩ := H
  go_enter Tryz.func14, Tryz.ntmps14
  go_wp2_with (first | ((with_reducible refine gate_dst (N := 4) rfl ?_); refine box_event ?hg (N := 4) ?hd (cs := #[.int .i64 0, .slice none 0 0]) (t := 31) ?hr ?_; (case hd => rfl); (case hg => rfl); (case hr => first | (go_simp; done) | (go_simp; rfl)); intro gb505 hg w6 hbox hb; have n0_ := zK (below_step zq0 hb); have n1_ := zK (hbox); have n2_ := zK ((by rw [hg]; exact (below_size zq0) : w.heap.size ≤ gb505)); have n3_ := zK ((by rw [hg]; exact (below_size zq0) : w.heap.size ≤ gb505)); clear HB; have HB := n0_; have BK505 := n1_; have GW505 := n2_; have GE505 := n3_; clear n0_ n1_ n2_ n3_; clear hb hbox hg) | ((with_reducible refine gate_callee (f := 31) rfl ?_); refine goesL_ (some 9) rfl rfl Tryz.func31 zq5 rfl #[.slice A0 l0.length c0] rfl zq1 ?_; (with_reducible refine (impl_StoreFault.calls k _ _ l0 t506 _ ?side1 ?side2 (Gt.below HG.out (by repeat (first | (with_reducible first | exact HB.out | apply zA | apply zN | apply zD | refine below_set ?_ GE505.out) | exact HB.out))) A3.out).mono ?_); (case side1 => repeat (first | exact (Kd.C_below HR0.out HB.out) | (with_reducible refine Kd.C_alloc ?_ _) | (with_reducible refine Kd.C_drewN ?_ _) | (with_reducible refine Kd.C_drew ?_))); (case side2 => exact HC0.out); rintro e w7 ⟨rfl, hb⟩; refine ⟨_, rfl, ?_⟩; have n0_ := zK (blk_below (g := gb505) (o := .cells #[.int .i64 0, .slice none 0 0] 31 (0, 0)) (by (with_reducible repeat (first | refine zM ?_ _ | refine zP ?_ | refine zQ ?_ _)); exact BK505.out) hb); have n1_ := zK (below_step (by repeat (first | (with_reducible first | exact HB.out | apply zA | apply zN | apply zD | refine below_set ?_ GE505.out) | exact HB.out)) hb); clear BK505; clear HB; have BK505 := n0_; have HB := n1_; clear n0_ n1_; (try clear hb); (try clear hb2); (try clear hk); (try clear hi)) | ((with_reducible refine gate_callee (f := 35) rfl ?_); refine goesL_ (some 17) rfl rfl Tryz.func35 zq5 rfl #[.slice A0 l0.length c0, .string a1] rfl zq1 ?_; (with_reducible refine (impl_historyOf.calls k _ _ l0 a1 t507 t508 _ ?side1 ?side2 (Gt.below HG.out (by repeat (first | (with_reducible first | exact HB.out | apply zA | apply zN | apply zD | refine below_set ?_ GE505.out) | exact HB.out))) A5.out).mono ?_); (case side1 => repeat (first | exact (Kd.C_below HR0.out HB.out) | (with_reducible refine Kd.C_alloc ?_ _) | (with_reducible refine Kd.C_drewN ?_ _) | (with_reducible refine Kd.C_drew ?_))); (case side2 => exact HC0.out); rintro e w8 ⟨v509, rfl, ho0, hb⟩; refine ⟨_, rfl, ?_⟩; have n0_ := zK (Kd.R_lower ho0 (below_size (by repeat (first | (with_reducible first | exact HB.out | apply zA | apply zN | apply zD | refine below_set ?_ GE505.out) | exact HB.out)))); have n1_ := zK (blk_below (g := gb505) (o := .cells #[.int .i64 0, .slice none 0 0] 31 (0, 0)) (by (with_reducible repeat (first | refine zM ?_ _ | refine zP ?_ | refine zQ ?_ _)); exact BK505.out) hb); have n2_ := zK (below_step (by repeat (first | (with_reducible first | exact HB.out | apply zA | apply zN | apply zD | refine below_set ?_ GE505.out) | exact HB.out)) hb); clear BK505; clear HB; have HO510 := n0_; have BK505 := n1_; have HB := n2_; clear n0_ n1_ n2_; (try clear hb); (try clear hb2); (try clear hk); (try clear hi); (try clear ho0); obtain ⟨Ao9, co9, eo9⟩ := Kd.R_slice HO510.out; subst eo9; have hcz10_0 : w8.cell? ⟨gb505, 0, none⟩ = some (.int .i64 0) := (blk_cell BK505.out 0).trans rfl; have hcz10_1 : w8.cell? ⟨gb505, 1, none⟩ = some (.slice none 0 0) := (blk_cell BK505.out 1).trans rfl; have hfz10_0 := blk_frozen BK505.out 0; have hfz10_1 := blk_frozen BK505.out 1))
  refine bodyPost_ret (results_cell_row rfl _ _ gb505 31 #[.int .i64 t508, .slice Ao9 t507.length co9] (0, 0) _ rfl (by (with_reducible repeat (first | refine zM ?_ _ | refine zP ?_ | refine zQ ?_ _)); refine blk_put (cs := #[.int .i64 t508, .slice none 0 0]) ?_ 1 _ rfl; (with_reducible repeat (first | refine zM ?_ _ | refine zP ?_ | refine zQ ?_ _)); refine blk_put (cs := #[.int .i64 0, .slice none 0 0]) ?_ 0 _ rfl; (with_reducible repeat (first | refine zM ?_ _ | refine zP ?_ | refine zQ ?_ _)); exact BK505.out) Tryz.underlying31 rfl zq5) rfl ?_
  exact ⟨_, zq3, (by (with_reducible repeat (first | apply zR | apply zV | apply zW)); exact Kd.R_mono (Kd.R_far (p := ⟨gb505, 1, none⟩) (Kd.R_far (p := ⟨gb505, 0, none⟩) (Kd.R_types HO510.out BK505.out zq9) (fun _ hk => hk.2) (.int .i64 t508)) (fun _ hk => hk.2) (.slice Ao9 t507.length co9)) (fun _ hk => trivial)), (by repeat (first | (with_reducible first | exact HB.out | apply zA | apply zN | apply zD | refine below_set ?_ GE505.out) | exact HB.out))⟩
 rw [if_neg c4] at H
 have c4b0 : (t506 == 0) = false := beq_eq_false_iff_ne.mpr c4
 have c4b1 : (t506 != 0) = true := bne_iff_ne.mpr c4
 simp only [Option.some.injEq, Prod.mk.injEq] at H
 obtain ⟨rfl, rfl⟩ := H
 go_enter Tryz.func14, Tryz.ntmps14
 go_wp2_with (first | ((with_reducible refine gate_dst (N := 4) rfl ?_); refine box_event ?hg (N := 4) ?hd (cs := #[.int .i64 0, .slice none 0 0]) (t := 31) ?hr ?_; (case hd => rfl); (case hg => rfl); (case hr => first | (go_simp; done) | (go_simp; rfl)); intro gb505 hg w11 hbox hb; have n0_ := zK (below_step zq0 hb); have n1_ := zK (hbox); have n2_ := zK ((by rw [hg]; exact (below_size zq0) : w.heap.size ≤ gb505)); have n3_ := zK ((by rw [hg]; exact (below_size zq0) : w.heap.size ≤ gb505)); clear HB; have HB := n0_; have BK505 := n1_; have GW505 := n2_; have GE505 := n3_; clear n0_ n1_ n2_ n3_; clear hb hbox hg) | ((with_reducible refine gate_callee (f := 31) rfl ?_); refine goesL_ (some 9) rfl rfl Tryz.func31 zq5 rfl #[.slice A0 l0.length c0] rfl zq1 ?_; (with_reducible refine (impl_StoreFault.calls k _ _ l0 t506 _ ?side1 ?side2 (Gt.below HG.out (by repeat (first | (with_reducible first | exact HB.out | apply zA | apply zN | apply zD | refine below_set ?_ GE505.out) | exact HB.out))) A3.out).mono ?_); (case side1 => repeat (first | exact (Kd.C_below HR0.out HB.out) | (with_reducible refine Kd.C_alloc ?_ _) | (with_reducible refine Kd.C_drewN ?_ _) | (with_reducible refine Kd.C_drew ?_))); (case side2 => exact HC0.out); rintro e w12 ⟨rfl, hb⟩; refine ⟨_, rfl, ?_⟩; have n0_ := zK (blk_below (g := gb505) (o := .cells #[.int .i64 0, .slice none 0 0] 31 (0, 0)) (by (with_reducible repeat (first | refine zM ?_ _ | refine zP ?_ | refine zQ ?_ _)); exact BK505.out) hb); have n1_ := zK (below_step (by repeat (first | (with_reducible first | exact HB.out | apply zA | apply zN | apply zD | refine below_set ?_ GE505.out) | exact HB.out)) hb); clear BK505; clear HB; have BK505 := n0_; have HB := n1_; clear n0_ n1_; (try clear hb); (try clear hb2); (try clear hk); (try clear hi); have hcz13_0 : w12.cell? ⟨gb505, 0, none⟩ = some (.int .i64 0) := (blk_cell BK505.out 0).trans rfl; have hcz13_1 : w12.cell? ⟨gb505, 1, none⟩ = some (.slice none 0 0) := (blk_cell BK505.out 1).trans rfl; have hfz13_0 := blk_frozen BK505.out 0; have hfz13_1 := blk_frozen BK505.out 1))
 refine bodyPost_ret (results_cell_row rfl _ _ gb505 31 #[.int .i64 t506, .slice none 0 0] (0, 0) _ rfl (by (with_reducible repeat (first | refine zM ?_ _ | refine zP ?_ | refine zQ ?_ _)); refine blk_put (cs := #[.int .i64 t506, .slice none 0 0]) ?_ 1 _ rfl; (with_reducible repeat (first | refine zM ?_ _ | refine zP ?_ | refine zQ ?_ _)); refine blk_put (cs := #[.int .i64 0, .slice none 0 0]) ?_ 0 _ rfl; (with_reducible repeat (first | refine zM ?_ _ | refine zP ?_ | refine zQ ?_ _)); exact BK505.out) Tryz.underlying31 rfl zq5) rfl ?_
 exact ⟨_, zq3, zq11, (by repeat (first | (with_reducible first | exact HB.out | apply zA | apply zN | apply zD | refine below_set ?_ GE505.out) | exact HB.out))⟩
def laws_FnExactHistoryOf.j0 : Nat → List (S48) → ByteArray → Bool → Int → List ByteArray → Int → List ByteArray → Option (Bool)
 | 0, _, _, _, _, _, _, _ => none
 | k + 1, x0, x1, x49, x542000, x542001, x550000, x550001 => if x49 = true then (some false) else ((laws_markLinesResult.f k x550000 x550001 1).bind fun bt558 => ((laws_heldLinesResult.f k x550000 bt558.2 1).bind fun t560 => (if t560 < 0 then (some false) else (if t560 = bt558.1 then ((laws_toObjectS.f k x0).bind fun t561 => ((impl_HistoryOf.f k t561 x1).bind fun bt564 => ((laws_eqLinesResult.f k bt564.1 bt564.2 x542000 x542001).bind fun t569 => (if t569 = true then ((laws_heldLinesResult.f k x550000 bt558.2 1).bind fun t570 => (if t570 < 0 then (some false) else (if t570 = bt558.1 then (some true) else (some false)))) else (some false))))) else (some false)))))
def laws_FnExactHistoryOf.f (k : Nat) (l0 : List (S48)) (a1 : ByteArray) : Option (Bool) := if (a1.size : Int) > 1048576 then (some true) else ((laws_szObjectS.f k l0 1048576).bind fun t533 => (if t533 < 0 then (some true) else ((laws_toObjectS.f k l0).bind fun t534 => ((spec_HistoryOf.f k t534 a1).bind fun bt537 => ((laws_toObjectS.f k l0).bind fun t542 => ((impl_HistoryOf.f k t542 a1).bind fun bt545 => ((laws_eqLinesResult.f k bt545.1 bt545.2 bt537.1 bt537.2).bind fun t550 => (if t550 = true then ((laws_toObjectS.f k l0).bind fun t551 => ((laws_eqObjectS.f k t542 t551).bind fun t554 => (if t554 = true then ((laws_markObjectS.f k t542 1).bind fun bt555 => (if bt555.1 < 0 then (laws_FnExactHistoryOf.j0 k l0 a1 true bt537.1 bt537.2 bt545.1 bt545.2) else ((laws_eqLinesResult.f k bt545.1 bt545.2 bt537.1 bt537.2).bind fun t557 => (laws_FnExactHistoryOf.j0 k l0 a1 (!t557) bt537.1 bt537.2 bt545.1 bt545.2)))) else (some false)))) else (some false)))))))))
set_option maxHeartbeats 8000000 in
set_option maxRecDepth 100000 in
theorem laws_FnExactHistoryOf.calls (k : Nat) (A0 : Option Addr) (c0 : Nat) (l0 : List (S48)) (a1 : ByteArray) (r : Bool) (w : World) (hr0 : Kd.C k48 w A0 l0.length l0) (hc0 : l0.length ≤ c0) (hG : Gt w) (h : laws_FnExactHistoryOf.f k l0 a1 = some r) (hT_ : r = true := by rfl) :
  Calls Tryz.prog 4 #[.slice A0 l0.length c0, .string a1] w fun e w' => e = .returned (.bool r) ∧ Below w.heap.size w w' := by
 have HG := zK hG
 clear hG
 have hu31 := Tryz.underlying31
 have HR0 := zK hr0
 have HC0 := zK hc0
 clear hr0 hc0
 have HB := zK (Below.refl w.heap.size w)
 have H : (if (a1.size : Int) > 1048576 then (some true) else ((laws_szObjectS.f k l0 1048576).bind fun t533 => (if t533 < 0 then (some true) else ((laws_toObjectS.f k l0).bind fun t534 => ((spec_HistoryOf.f k t534 a1).bind fun bt537 => ((laws_toObjectS.f k l0).bind fun t542 => ((impl_HistoryOf.f k t542 a1).bind fun bt545 => ((laws_eqLinesResult.f k bt545.1 bt545.2 bt537.1 bt537.2).bind fun t550 => (if t550 = true then ((laws_toObjectS.f k l0).bind fun t551 => ((laws_eqObjectS.f k t542 t551).bind fun t554 => (if t554 = true then ((laws_markObjectS.f k t542 1).bind fun bt555 => (if bt555.1 < 0 then (laws_FnExactHistoryOf.j0 k l0 a1 true bt537.1 bt537.2 bt545.1 bt545.2) else ((laws_eqLinesResult.f k bt545.1 bt545.2 bt537.1 bt537.2).bind fun t557 => (laws_FnExactHistoryOf.j0 k l0 a1 (!t557) bt537.1 bt537.2 bt545.1 bt545.2)))) else (some false)))) else (some false)))))))))) = some r := h
 clear h
 by_cases c3 : (a1.size : Int) > 1048576
 ·
  rw [if_pos c3] at H
  have c3b0 : decide (1048576 < (a1.size : Int)) = true := decide_eq_true c3
  have c3b1 : decide (1048576 < a1.size) = true := decide_eq_true zq6
  clear c3
  obtain rfl := Option.some.inj H
  go_enter Tryz.func4, Tryz.ntmps4
  go_wp2
  go_ret
  exact ⟨zq3, zq0⟩
 rw [if_neg c3] at H
 have c3b0 : decide (1048576 < (a1.size : Int)) = false := decide_eq_false c3
 have c3b1 : decide (1048576 < a1.size) = false := decide_eq_false zq6
 clear c3
 replace H := Option.bind_eq_some_iff.mp H
 obtain ⟨t533, A40, H⟩ := H
 replace H : (if t533 < 0 then (some true) else ((laws_toObjectS.f k l0).bind fun t534 => ((spec_HistoryOf.f k t534 a1).bind fun bt537 => ((laws_toObjectS.f k l0).bind fun t542 => ((impl_HistoryOf.f k t542 a1).bind fun bt545 => ((laws_eqLinesResult.f k bt545.1 bt545.2 bt537.1 bt537.2).bind fun t550 => (if t550 = true then ((laws_toObjectS.f k l0).bind fun t551 => ((laws_eqObjectS.f k t542 t551).bind fun t554 => (if t554 = true then ((laws_markObjectS.f k t542 1).bind fun bt555 => (if bt555.1 < 0 then (laws_FnExactHistoryOf.j0 k l0 a1 true bt537.1 bt537.2 bt545.1 bt545.2) else ((laws_eqLinesResult.f k bt545.1 bt545.2 bt537.1 bt537.2).bind fun t557 => (laws_FnExactHistoryOf.j0 k l0 a1 (!t557) bt537.1 bt537.2 bt545.1 bt545.2)))) else (some false)))) else (some false)))))))) = some r := H
 have A4 := zK A40
 clear A40
 by_cases c5 : t533 < 0
 ·
  rw [if_pos c5] at H
  have c5b0 : decide (t533 < 0) = true := decide_eq_true c5
  clear c5
  obtain rfl := Option.some.inj H
  go_enter Tryz.func4, Tryz.ntmps4
  go_wp2_with (first | ((with_reducible refine gate_callee (f := 8) rfl ?_); refine goesL_ (some 18) rfl rfl Tryz.func8 zq5 rfl #[.slice A0 l0.length c0, .int .i64 1048576] rfl zq1 ?_; (with_reducible refine (laws_szObjectS.calls k _ _ l0 1048576 t533 _ ?side1 ?side2 A4.out).mono ?_); (case side1 => repeat (first | exact HR0.out | (with_reducible refine Kd.C_alloc ?_ _) | (with_reducible refine Kd.C_drewN ?_ _) | (with_reducible refine Kd.C_drew ?_))); (case side2 => exact HC0.out); rintro e w6 ⟨rfl, hb⟩; refine ⟨_, rfl, ?_⟩; have n0_ := zK (below_step zq0 hb); clear HB; have HB := n0_; clear n0_; (try clear hb); (try clear hb2); (try clear hk); (try clear hi)))
  go_ret
  exact ⟨zq3, zq0⟩
 rw [if_neg c5] at H
 have c5b0 : decide (t533 < 0) = false := decide_eq_false c5
 clear c5
 replace H := Option.bind_eq_some_iff.mp H
 obtain ⟨t534, A70, H⟩ := H
 replace H : ((spec_HistoryOf.f k t534 a1).bind fun bt537 => ((laws_toObjectS.f k l0).bind fun t542 => ((impl_HistoryOf.f k t542 a1).bind fun bt545 => ((laws_eqLinesResult.f k bt545.1 bt545.2 bt537.1 bt537.2).bind fun t550 => (if t550 = true then ((laws_toObjectS.f k l0).bind fun t551 => ((laws_eqObjectS.f k t542 t551).bind fun t554 => (if t554 = true then ((laws_markObjectS.f k t542 1).bind fun bt555 => (if bt555.1 < 0 then (laws_FnExactHistoryOf.j0 k l0 a1 true bt537.1 bt537.2 bt545.1 bt545.2) else ((laws_eqLinesResult.f k bt545.1 bt545.2 bt537.1 bt537.2).bind fun t557 => (laws_FnExactHistoryOf.j0 k l0 a1 (!t557) bt537.1 bt537.2 bt545.1 bt545.2)))) else (some false)))) else (some false)))))) = some r := H
 have A7 := zK A70
 clear A70
 replace H := Option.bind_eq_some_iff.mp H
 obtain ⟨⟨t537, t538⟩, A80, H⟩ := H
 replace H : ((laws_toObjectS.f k l0).bind fun t542 => ((impl_HistoryOf.f k t542 a1).bind fun bt545 => ((laws_eqLinesResult.f k bt545.1 bt545.2 t537 t538).bind fun t550 => (if t550 = true then ((laws_toObjectS.f k l0).bind fun t551 => ((laws_eqObjectS.f k t542 t551).bind fun t554 => (if t554 = true then ((laws_markObjectS.f k t542 1).bind fun bt555 => (if bt555.1 < 0 then (laws_FnExactHistoryOf.j0 k l0 a1 true t537 t538 bt545.1 bt545.2) else ((laws_eqLinesResult.f k bt545.1 bt545.2 t537 t538).bind fun t557 => (laws_FnExactHistoryOf.j0 k l0 a1 (!t557) t537 t538 bt545.1 bt545.2)))) else (some false)))) else (some false))))) = some r := H
 have A8 := zK A80
 clear A80
 replace H := Option.bind_eq_some_iff.mp H
 obtain ⟨t542, A90, H⟩ := H
 replace H : ((impl_HistoryOf.f k t542 a1).bind fun bt545 => ((laws_eqLinesResult.f k bt545.1 bt545.2 t537 t538).bind fun t550 => (if t550 = true then ((laws_toObjectS.f k l0).bind fun t551 => ((laws_eqObjectS.f k t542 t551).bind fun t554 => (if t554 = true then ((laws_markObjectS.f k t542 1).bind fun bt555 => (if bt555.1 < 0 then (laws_FnExactHistoryOf.j0 k l0 a1 true t537 t538 bt545.1 bt545.2) else ((laws_eqLinesResult.f k bt545.1 bt545.2 t537 t538).bind fun t557 => (laws_FnExactHistoryOf.j0 k l0 a1 (!t557) t537 t538 bt545.1 bt545.2)))) else (some false)))) else (some false)))) = some r := H
 have A9 := zK A90
 clear A90
 replace H := Option.bind_eq_some_iff.mp H
 obtain ⟨⟨t545, t546⟩, A100, H⟩ := H
 replace H : ((laws_eqLinesResult.f k t545 t546 t537 t538).bind fun t550 => (if t550 = true then ((laws_toObjectS.f k l0).bind fun t551 => ((laws_eqObjectS.f k t542 t551).bind fun t554 => (if t554 = true then ((laws_markObjectS.f k t542 1).bind fun bt555 => (if bt555.1 < 0 then (laws_FnExactHistoryOf.j0 k l0 a1 true t537 t538 t545 t546) else ((laws_eqLinesResult.f k t545 t546 t537 t538).bind fun t557 => (laws_FnExactHistoryOf.j0 k l0 a1 (!t557) t537 t538 t545 t546)))) else (some false)))) else (some false))) = some r := H
 have A10 := zK A100
 clear A100
 replace H := Option.bind_eq_some_iff.mp H
 obtain ⟨t550, A110, H⟩ := H
 replace H : (if t550 = true then ((laws_toObjectS.f k l0).bind fun t551 => ((laws_eqObjectS.f k t542 t551).bind fun t554 => (if t554 = true then ((laws_markObjectS.f k t542 1).bind fun bt555 => (if bt555.1 < 0 then (laws_FnExactHistoryOf.j0 k l0 a1 true t537 t538 t545 t546) else ((laws_eqLinesResult.f k t545 t546 t537 t538).bind fun t557 => (laws_FnExactHistoryOf.j0 k l0 a1 (!t557) t537 t538 t545 t546)))) else (some false)))) else (some false)) = some r := H
 have A11 := zK A110
 clear A110
 by_cases c12 : t550 = true
 ·
  subst c12
  have H1 : ((laws_toObjectS.f k l0).bind fun t551 => ((laws_eqObjectS.f k t542 t551).bind fun t554 => (if t554 = true then ((laws_markObjectS.f k t542 1).bind fun bt555 => (if bt555.1 < 0 then (laws_FnExactHistoryOf.j0 k l0 a1 true t537 t538 t545 t546) else ((laws_eqLinesResult.f k t545 t546 t537 t538).bind fun t557 => (laws_FnExactHistoryOf.j0 k l0 a1 (!t557) t537 t538 t545 t546)))) else (some false)))) = some r := by rw [if_pos rfl] at H; exact H
  clear H
  have H := H1
  clear H1
  replace H := Option.bind_eq_some_iff.mp H
  obtain ⟨t551, A130, H⟩ := H
  replace H : ((laws_eqObjectS.f k t542 t551).bind fun t554 => (if t554 = true then ((laws_markObjectS.f k t542 1).bind fun bt555 => (if bt555.1 < 0 then (laws_FnExactHistoryOf.j0 k l0 a1 true t537 t538 t545 t546) else ((laws_eqLinesResult.f k t545 t546 t537 t538).bind fun t557 => (laws_FnExactHistoryOf.j0 k l0 a1 (!t557) t537 t538 t545 t546)))) else (some false))) = some r := H
  have A13 := zK A130
  clear A130
  replace H := Option.bind_eq_some_iff.mp H
  obtain ⟨t554, A140, H⟩ := H
  replace H : (if t554 = true then ((laws_markObjectS.f k t542 1).bind fun bt555 => (if bt555.1 < 0 then (laws_FnExactHistoryOf.j0 k l0 a1 true t537 t538 t545 t546) else ((laws_eqLinesResult.f k t545 t546 t537 t538).bind fun t557 => (laws_FnExactHistoryOf.j0 k l0 a1 (!t557) t537 t538 t545 t546)))) else (some false)) = some r := H
  have A14 := zK A140
  clear A140
  by_cases c15 : t554 = true
  ·
   subst c15
   have H1 : ((laws_markObjectS.f k t542 1).bind fun bt555 => (if bt555.1 < 0 then (laws_FnExactHistoryOf.j0 k l0 a1 true t537 t538 t545 t546) else ((laws_eqLinesResult.f k t545 t546 t537 t538).bind fun t557 => (laws_FnExactHistoryOf.j0 k l0 a1 (!t557) t537 t538 t545 t546)))) = some r := by rw [if_pos rfl] at H; exact H
   clear H
   have H := H1
   clear H1
   replace H := Option.bind_eq_some_iff.mp H
   obtain ⟨⟨t555, t556⟩, A160, H⟩ := H
   replace H : (if t555 < 0 then (laws_FnExactHistoryOf.j0 k l0 a1 true t537 t538 t545 t546) else ((laws_eqLinesResult.f k t545 t546 t537 t538).bind fun t557 => (laws_FnExactHistoryOf.j0 k l0 a1 (!t557) t537 t538 t545 t546))) = some r := H
   have A16 := zK A160
   clear A160
   have HC17 := zK H
   clear H
   go_enter Tryz.func4, Tryz.ntmps4
   go_upto_region 16 with (first | ((with_reducible refine gate_callee (f := 8) rfl ?_); refine goesL_ (some 18) rfl rfl Tryz.func8 zq5 rfl #[.slice A0 l0.length c0, .int .i64 1048576] rfl zq1 ?_; (with_reducible refine (laws_szObjectS.calls k _ _ l0 1048576 t533 _ ?side1 ?side2 A4.out).mono ?_); (case side1 => repeat (first | exact HR0.out | (with_reducible refine Kd.C_alloc ?_ _) | (with_reducible refine Kd.C_drewN ?_ _) | (with_reducible refine Kd.C_drew ?_))); (case side2 => exact HC0.out); rintro e w18 ⟨rfl, hb⟩; refine ⟨_, rfl, ?_⟩; have n0_ := zK (below_step zq0 hb); clear HB; have HB := n0_; clear n0_; (try clear hb); (try clear hb2); (try clear hk); (try clear hi)) | ((with_reducible refine gate_callee (f := 10) rfl ?_); refine goesL_ (some 22) rfl rfl Tryz.func10 zq5 rfl #[.slice A0 l0.length c0] rfl zq1 ?_; (with_reducible refine (laws_toObjectS.calls k _ _ l0 t534 _ ?side1 ?side2 A7.out).mono ?_); (case side1 => repeat (first | exact (Kd.C_below HR0.out HB.out) | (with_reducible refine Kd.C_alloc ?_ _) | (with_reducible refine Kd.C_drewN ?_ _) | (with_reducible refine Kd.C_drew ?_))); (case side2 => exact HC0.out); rintro e w19 ⟨v535, rfl, ho0, hb⟩; refine ⟨_, rfl, ?_⟩; have n0_ := zK (Kd.R_lower ho0 (below_size zq0)); have n1_ := zK (below_step zq0 hb); clear HB; have HO536 := n0_; have HB := n1_; clear n0_ n1_; (try clear hb); (try clear hb2); (try clear hk); (try clear hi); (try clear ho0); obtain ⟨Ao20, co20, eo20⟩ := Kd.R_slice HO536.out; subst eo20) | ((with_reducible refine gate_callee (f := 13) rfl ?_); refine goesL_ (some 24) rfl rfl Tryz.func13 zq5 rfl #[.slice Ao20 t534.length co20, .string a1] rfl zq1 ?_; (with_reducible refine (spec_HistoryOf.calls k _ _ t534 a1 t537 t538 _ ?side1 ?side2 A8.out).mono ?_); (case side1 => repeat (first | exact (Kd.R_reads' HO536.out).2.2 | (with_reducible refine Kd.C_alloc ?_ _) | (with_reducible refine Kd.C_drewN ?_ _) | (with_reducible refine Kd.C_drew ?_))); (case side2 => exact (Kd.R_reads' HO536.out).2.1); rintro e w21 ⟨v539, rfl, ho0, hb⟩; refine ⟨_, rfl, ?_⟩; have n0_ := zK (Kd.R_below zq14 hb); have n1_ := zK (Kd.R_lower ho0 (below_size zq0)); have n2_ := zK (below_step zq0 hb); clear HO536; clear HB; have HO536 := n0_; have HO540 := n1_; have HB := n2_; clear n0_ n1_ n2_; (try clear hb); (try clear hb2); (try clear hk); (try clear hi); (try clear ho0)) | ((with_reducible refine gate_dst (N := 6) rfl ?_); refine box_event ?hg (N := 6) ?hd (cs := #[.int .i64 0, .slice none 0 0]) (t := 31) ?hr ?_; (case hd => rfl); (case hg => rfl); (case hr => first | (go_simp; done) | (go_simp; rfl)); intro gb541 hg w22 hbox hb; have n0_ := zK (Kd.R_below zq14 hb); have n1_ := zK (Kd.R_below zq16 hb); have n2_ := zK (below_step zq0 hb); have n3_ := zK (hbox); have n4_ := zK ((by rw [hg]; exact (below_size zq0) : w.heap.size ≤ gb541)); have n5_ := zK ((by rw [hg]; exact (below_size zq0) : w.heap.size ≤ gb541)); clear HO536; clear HO540; clear HB; have HO536 := n0_; have HO540 := n1_; have HB := n2_; have BK541 := n3_; have GW541 := n4_; have GE541 := n5_; clear n0_ n1_ n2_ n3_ n4_ n5_; clear hb hbox hg; have hcz23_0 : w22.cell? ⟨gb541, 0, none⟩ = some (.int .i64 0) := (blk_cell BK541.out 0).trans rfl; have hcz23_1 : w22.cell? ⟨gb541, 1, none⟩ = some (.slice none 0 0) := (blk_cell BK541.out 1).trans rfl; have hfz23_0 := blk_frozen BK541.out 0; have hfz23_1 := blk_frozen BK541.out 1; obtain ⟨Ao24, co24, eo24⟩ := Kd.R_slice HO540.out; subst eo24) | ((with_reducible refine gate_callee (f := 10) rfl ?_); refine goesL_ (some 26) rfl rfl Tryz.func10 zq5 rfl #[.slice A0 l0.length c0] rfl zq1 ?_; (with_reducible refine (laws_toObjectS.calls k _ _ l0 t542 _ ?side1 ?side2 A9.out).mono ?_); (case side1 => exact Kd.C_below HR0.out (by repeat (first | (with_reducible first | exact HB.out | apply zA | apply zN | apply zD | refine below_set ?_ GE541.out) | exact HB.out))); (case side2 => exact HC0.out); rintro e w25 ⟨v543, rfl, ho0, hb⟩; refine ⟨_, rfl, ?_⟩; have n0_ := zK (Kd.R_elder' (by (with_reducible repeat (first | apply zR | apply zV | apply zW)); exact (Kd.R_mono (Kd.R_far (p := ⟨gb541, 1, none⟩) (Kd.R_far (p := ⟨gb541, 0, none⟩) (Kd.R_types HO536.out BK541.out zq9) (fun _ hk => hk.2) (.int .i64 t537)) (fun _ hk => hk.2) (.slice Ao24 t538.length co24)) (fun _ h_ => h_.1))) (Kd.R_base ho0) hb); have n1_ := zK (Kd.R_below (by (with_reducible repeat (first | apply zR | apply zV | apply zW)); exact (Kd.R_mono (Kd.R_far (p := ⟨gb541, 1, none⟩) (Kd.R_far (p := ⟨gb541, 0, none⟩) (Kd.R_types HO540.out BK541.out zq9) (fun _ hk => hk.2) (.int .i64 t537)) (fun _ hk => hk.2) (.slice Ao24 t538.length co24)) (fun _ h_ => h_.1))) hb); have n2_ := zK (Kd.R_lower (Kd.R_new' ho0 (Kd.R_lt (by (with_reducible repeat (first | apply zR | apply zV | apply zW)); exact (Kd.R_mono (Kd.R_far (p := ⟨gb541, 1, none⟩) (Kd.R_far (p := ⟨gb541, 0, none⟩) (Kd.R_types HO536.out BK541.out zq9) (fun _ hk => hk.2) (.int .i64 t537)) (fun _ hk => hk.2) (.slice Ao24 t538.length co24)) (fun _ h_ => h_.1))))) (below_size (by repeat (first | (with_reducible first | exact HB.out | apply zA | apply zN | apply zD | refine below_set ?_ GE541.out) | exact HB.out)))); have n3_ := zK (blk_below (g := gb541) (o := .cells #[.int .i64 t537, .slice Ao24 t538.length co24] 31 (0, 0)) (by (with_reducible repeat (first | refine zM ?_ _ | refine zP ?_ | refine zQ ?_ _)); refine blk_put (cs := #[.int .i64 t537, .slice none 0 0]) ?_ 1 _ rfl; (with_reducible repeat (first | refine zM ?_ _ | refine zP ?_ | refine zQ ?_ _)); refine blk_put (cs := #[.int .i64 0, .slice none 0 0]) ?_ 0 _ rfl; (with_reducible repeat (first | refine zM ?_ _ | refine zP ?_ | refine zQ ?_ _)); exact BK541.out) hb); have n4_ := zK (below_step (by repeat (first | (with_reducible first | exact HB.out | apply zA | apply zN | apply zD | refine below_set ?_ GE541.out) | exact HB.out)) hb); clear HO536; clear HO540; clear BK541; clear HB; have HO536 := n0_; have HO540 := n1_; have HO544 := n2_; have BK541 := n3_; have HB := n4_; clear n0_ n1_ n2_ n3_ n4_; (try clear hb); (try clear hb2); (try clear hk); (try clear hi); (try clear ho0); obtain ⟨Ao26, co26, eo26⟩ := Kd.R_slice HO544.out; subst eo26) | ((with_reducible refine gate_callee (f := 14) rfl ?_); refine goesL_ (some 29) rfl rfl Tryz.func14 zq5 rfl #[.slice Ao26 t542.length co26, .string a1] rfl zq1 ?_; (with_reducible refine (impl_HistoryOf.calls k _ _ t542 a1 t545 t546 _ ?side1 ?side2 (Gt.below HG.out (by repeat (first | (with_reducible first | exact HB.out | apply zA | apply zN | apply zD | refine below_set ?_ GE541.out) | exact HB.out))) A10.out).mono ?_); (case side1 => repeat (first | exact (Kd.R_reads' HO544.out).2.2 | (with_reducible refine Kd.C_alloc ?_ _) | (with_reducible refine Kd.C_drewN ?_ _) | (with_reducible refine Kd.C_drew ?_))); (case side2 => exact (Kd.R_reads' HO544.out).2.1); rintro e w27 ⟨v547, rfl, ho0, hb⟩; refine ⟨_, rfl, ?_⟩; have n0_ := zK (Kd.R_below zq14 hb); have n1_ := zK (Kd.R_elder' zq16 (Kd.R_base ho0) hb); have n2_ := zK (Kd.R_below zq21 hb); have n3_ := zK (Kd.R_lower (Kd.R_new' ho0 (Kd.R_lt zq16)) (below_size (by repeat (first | (with_reducible first | exact HB.out | apply zA | apply zN | apply zD | refine below_set ?_ GE541.out) | exact HB.out)))); have n4_ := zK (blk_below (g := gb541) (o := .cells #[.int .i64 t537, .slice Ao24 t538.length co24] 31 (0, 0)) (by (with_reducible repeat (first | refine zM ?_ _ | refine zP ?_ | refine zQ ?_ _)); exact BK541.out) hb); have n5_ := zK (below_step (by repeat (first | (with_reducible first | exact HB.out | apply zA | apply zN | apply zD | refine below_set ?_ GE541.out) | exact HB.out)) hb); clear HO536; clear HO540; clear HO544; clear BK541; clear HB; have HO536 := n0_; have HO540 := n1_; have HO544 := n2_; have HO548 := n3_; have BK541 := n4_; have HB := n5_; clear n0_ n1_ n2_ n3_ n4_ n5_; (try clear hb); (try clear hb2); (try clear hk); (try clear hi); (try clear ho0)) | ((with_reducible refine gate_dst (N := 8) rfl ?_); refine box_event ?hg (N := 8) ?hd (cs := #[.int .i64 0, .slice none 0 0]) (t := 31) ?hr ?_; (case hd => rfl); (case hg => rfl); (case hr => first | (go_simp; done) | (go_simp; rfl)); intro gb549 hg w28 hbox hb; have n0_ := zK (Kd.R_below zq14 hb); have n1_ := zK (Kd.R_below zq16 hb); have n2_ := zK (Kd.R_below zq21 hb); have n3_ := zK (Kd.R_below zq27 hb); have n4_ := zK (blk_below (g := gb541) (o := .cells #[.int .i64 t537, .slice Ao24 t538.length co24] 31 (0, 0)) (by (with_reducible repeat (first | refine zM ?_ _ | refine zP ?_ | refine zQ ?_ _)); exact BK541.out) hb); have n5_ := zK (below_step (by repeat (first | (with_reducible first | exact HB.out | apply zA | apply zN | apply zD | refine below_set ?_ GE541.out) | exact HB.out)) hb); have n6_ := zK (hbox); have n7_ := zK ((by rw [hg]; exact (below_size (by repeat (first | (with_reducible first | exact HB.out | apply zA | apply zN | apply zD | refine below_set ?_ GE541.out) | exact HB.out))) : w.heap.size ≤ gb549)); have n8_ := zK ((by rw [hg]; exact (below_size (by repeat (first | (with_reducible first | exact HB.out | apply zA | apply zN | apply zD | refine below_set ?_ GE541.out) | exact HB.out))) : w.heap.size ≤ gb549)); have n9_ := zK ((by rw [hg]; exact Nat.ne_of_lt (blk_lt (g := gb541) (o := .cells #[.int .i64 t537, .slice Ao24 t538.length co24] 31 (0, 0)) (by (with_reducible repeat (first | refine zM ?_ _ | refine zP ?_ | refine zQ ?_ _)); exact BK541.out)) : gb541 ≠ gb549)); have n10_ := zK ((by rw [hg]; exact Nat.ne_of_gt (blk_lt (g := gb541) (o := .cells #[.int .i64 t537, .slice Ao24 t538.length co24] 31 (0, 0)) (by (with_reducible repeat (first | refine zM ?_ _ | refine zP ?_ | refine zQ ?_ _)); exact BK541.out)) : gb549 ≠ gb541)); clear HO536; clear HO540; clear HO544; clear HO548; clear BK541; clear HB; have HO536 := n0_; have HO540 := n1_; have HO544 := n2_; have HO548 := n3_; have BK541 := n4_; have HB := n5_; have BK549 := n6_; have GW549 := n7_; have GE549 := n8_; have NB541_549 := n9_; have NB549_541 := n10_; clear n0_ n1_ n2_ n3_ n4_ n5_ n6_ n7_ n8_ n9_ n10_; clear hb hbox hg; have hnb29 := NB549_541.out; have hnc29 := NB541_549.out; have hcz30_0 : w28.cell? ⟨gb549, 0, none⟩ = some (.int .i64 0) := (blk_cell BK549.out 0).trans rfl; have hcz30_1 : w28.cell? ⟨gb549, 1, none⟩ = some (.slice none 0 0) := (blk_cell BK549.out 1).trans rfl; have hfz30_0 := blk_frozen BK549.out 0; have hfz30_1 := blk_frozen BK549.out 1; obtain ⟨Ao31, co31, eo31⟩ := Kd.R_slice HO548.out; subst eo31; have hcz32_0 : w28.cell? ⟨gb541, 0, none⟩ = some (.int .i64 t537) := (blk_cell BK541.out 0).trans rfl; have hcz32_1 : w28.cell? ⟨gb541, 1, none⟩ = some (.slice Ao24 t538.length co24) := (blk_cell BK541.out 1).trans rfl; have hfz32_0 := blk_frozen BK541.out 0; have hfz32_1 := blk_frozen BK541.out 1) | ((with_reducible refine gate_callee (f := 15) rfl ?_); refine goesL_ (some 32) rfl rfl Tryz.func15 zq5 rfl #[.agg #[.int .i64 t545, .slice Ao31 t546.length co31], .agg #[.int .i64 t537, .slice Ao24 t538.length co24]] rfl zq1 ?_; (with_reducible refine (laws_eqLinesResult.calls k t545 _ _ t546 t537 _ _ t538 true _ ?side1 ?side2 ?side3 ?side4 A11.out).mono ?_); (case side1 => refine (Kd.R_reads' (e := 9) (base := w.heap.size) (ok := fun k_ => (True ∧ some k_ ≠ (.slice Ao24 t538.length co24 : Value).ownBlock)) (n := t546.length) (c := co31) ?_).2.2; exact (by (with_reducible repeat (first | apply zR | apply zV | apply zW)); exact (Kd.R_mono (Kd.R_far (p := ⟨gb549, 1, none⟩) (Kd.R_far (p := ⟨gb549, 0, none⟩) (Kd.R_types HO548.out BK549.out zq9) (fun _ hk => hk.2) (.int .i64 t545)) (fun _ hk => hk.2) (.slice Ao31 t546.length co31)) (fun _ h_ => h_.1)))); (case side2 => exact (Kd.R_reads' HO548.out).2.1); (case side3 => refine (Kd.R_reads' (e := 9) (base := w.heap.size) (ok := fun k_ => (True ∧ some k_ ≠ (.slice Ao31 t546.length co31 : Value).ownBlock)) (n := t538.length) (c := co24) ?_).2.2; exact (by (with_reducible repeat (first | apply zR | apply zV | apply zW)); exact (Kd.R_mono (Kd.R_far (p := ⟨gb549, 1, none⟩) (Kd.R_far (p := ⟨gb549, 0, none⟩) (Kd.R_types HO540.out BK549.out zq9) (fun _ hk => hk.2) (.int .i64 t545)) (fun _ hk => hk.2) (.slice Ao31 t546.length co31)) (fun _ h_ => h_.1)))); (case side4 => exact (Kd.R_reads' HO540.out).2.1); rintro e w33 ⟨rfl, hb⟩; refine ⟨_, rfl, ?_⟩; have n0_ := zK (Kd.R_below (by (with_reducible repeat (first | apply zR | apply zV | apply zW)); exact (Kd.R_mono (Kd.R_far (p := ⟨gb549, 1, none⟩) (Kd.R_far (p := ⟨gb549, 0, none⟩) (Kd.R_types HO536.out BK549.out zq9) (fun _ hk => hk.2) (.int .i64 t545)) (fun _ hk => hk.2) (.slice Ao31 t546.length co31)) (fun _ h_ => h_.1))) hb); have n1_ := zK (Kd.R_below (by (with_reducible repeat (first | apply zR | apply zV | apply zW)); exact (Kd.R_mono (Kd.R_far (p := ⟨gb549, 1, none⟩) (Kd.R_far (p := ⟨gb549, 0, none⟩) (Kd.R_types HO540.out BK549.out zq9) (fun _ hk => hk.2) (.int .i64 t545)) (fun _ hk => hk.2) (.slice Ao31 t546.length co31)) (fun _ h_ => h_.1))) hb); have n2_ := zK (Kd.R_below (by (with_reducible repeat (first | apply zR | apply zV | apply zW)); exact (Kd.R_mono (Kd.R_far (p := ⟨gb549, 1, none⟩) (Kd.R_far (p := ⟨gb549, 0, none⟩) (Kd.R_types HO544.out BK549.out zq9) (fun _ hk => hk.2) (.int .i64 t545)) (fun _ hk => hk.2) (.slice Ao31 t546.length co31)) (fun _ h_ => h_.1))) hb); have n3_ := zK (Kd.R_below (by (with_reducible repeat (first | apply zR | apply zV | apply zW)); exact (Kd.R_mono (Kd.R_far (p := ⟨gb549, 1, none⟩) (Kd.R_far (p := ⟨gb549, 0, none⟩) (Kd.R_types HO548.out BK549.out zq9) (fun _ hk => hk.2) (.int .i64 t545)) (fun _ hk => hk.2) (.slice Ao31 t546.length co31)) (fun _ h_ => h_.1))) hb); have n4_ := zK (blk_below (g := gb541) (o := .cells #[.int .i64 t537, .slice Ao24 t538.length co24] 31 (0, 0)) (by (with_reducible repeat (first | refine zM ?_ _ | refine zP ?_ | refine zQ ?_ _)); refine blk_far ?_ NB541_549.out _; (with_reducible repeat (first | refine zM ?_ _ | refine zP ?_ | refine zQ ?_ _)); refine blk_far ?_ NB541_549.out _; (with_reducible repeat (first | refine zM ?_ _ | refine zP ?_ | refine zQ ?_ _)); exact BK541.out) hb); have n5_ := zK (blk_below (g := gb549) (o := .cells #[.int .i64 t545, .slice Ao31 t546.length co31] 31 (0, 0)) (by (with_reducible repeat (first | refine zM ?_ _ | refine zP ?_ | refine zQ ?_ _)); refine blk_put (cs := #[.int .i64 t545, .slice none 0 0]) ?_ 1 _ rfl; (with_reducible repeat (first | refine zM ?_ _ | refine zP ?_ | refine zQ ?_ _)); refine blk_put (cs := #[.int .i64 0, .slice none 0 0]) ?_ 0 _ rfl; (with_reducible repeat (first | refine zM ?_ _ | refine zP ?_ | refine zQ ?_ _)); exact BK549.out) hb); have n6_ := zK (below_step (by repeat (first | (with_reducible first | exact HB.out | apply zA | apply zN | apply zD | refine below_set ?_ GE541.out | refine below_set ?_ GE549.out) | exact HB.out)) hb); clear HO536; clear HO540; clear HO544; clear HO548; clear BK541; clear BK549; clear HB; have HO536 := n0_; have HO540 := n1_; have HO544 := n2_; have HO548 := n3_; have BK541 := n4_; have BK549 := n5_; have HB := n6_; clear n0_ n1_ n2_ n3_ n4_ n5_ n6_; (try clear hb); (try clear hb2); (try clear hk); (try clear hi)) | ((with_reducible refine gate_callee (f := 10) rfl ?_); refine goesL_ (some 36) rfl rfl Tryz.func10 zq5 rfl #[.slice A0 l0.length c0] rfl zq1 ?_; (with_reducible refine (laws_toObjectS.calls k _ _ l0 t551 _ ?side1 ?side2 A13.out).mono ?_); (case side1 => repeat (first | exact (Kd.C_below HR0.out HB.out) | (with_reducible refine Kd.C_alloc ?_ _) | (with_reducible refine Kd.C_drewN ?_ _) | (with_reducible refine Kd.C_drew ?_))); (case side2 => exact HC0.out); rintro e w34 ⟨v552, rfl, ho0, hb⟩; refine ⟨_, rfl, ?_⟩; have n0_ := zK (Kd.R_elder' zq14 (Kd.R_base ho0) hb); have n1_ := zK (Kd.R_below zq16 hb); have n2_ := zK (Kd.R_elder' zq21 (Kd.R_base ho0) hb); have n3_ := zK (Kd.R_below zq27 hb); have n4_ := zK (Kd.R_lower (Kd.R_new' (Kd.R_new' ho0 (Kd.R_lt zq14)) (Kd.R_lt zq21)) (below_size (by repeat (first | (with_reducible first | exact HB.out | apply zA | apply zN | apply zD | refine below_set ?_ GE541.out | refine below_set ?_ GE549.out) | exact HB.out)))); have n5_ := zK (blk_below (g := gb541) (o := .cells #[.int .i64 t537, .slice Ao24 t538.length co24] 31 (0, 0)) (by (with_reducible repeat (first | refine zM ?_ _ | refine zP ?_ | refine zQ ?_ _)); exact BK541.out) hb); have n6_ := zK (blk_below (g := gb549) (o := .cells #[.int .i64 t545, .slice Ao31 t546.length co31] 31 (0, 0)) (by (with_reducible repeat (first | refine zM ?_ _ | refine zP ?_ | refine zQ ?_ _)); exact BK549.out) hb); have n7_ := zK (below_step (by repeat (first | (with_reducible first | exact HB.out | apply zA | apply zN | apply zD | refine below_set ?_ GE541.out | refine below_set ?_ GE549.out) | exact HB.out)) hb); clear HO536; clear HO540; clear HO544; clear HO548; clear BK541; clear BK549; clear HB; have HO536 := n0_; have HO540 := n1_; have HO544 := n2_; have HO548 := n3_; have HO553 := n4_; have BK541 := n5_; have BK549 := n6_; have HB := n7_; clear n0_ n1_ n2_ n3_ n4_ n5_ n6_ n7_; (try clear hb); (try clear hb2); (try clear hk); (try clear hi); (try clear ho0); obtain ⟨Ao35, co35, eo35⟩ := Kd.R_slice HO553.out; subst eo35) | ((with_reducible refine gate_callee (f := 12) rfl ?_); refine goesL_ (some 37) rfl rfl Tryz.func12 zq5 rfl #[.slice Ao26 t542.length co26, .slice Ao35 t551.length co35] rfl zq1 ?_; (with_reducible refine (laws_eqObjectS.calls k _ _ t542 _ _ t551 true _ ?side1 ?side2 ?side3 ?side4 A14.out).mono ?_); (case side1 => repeat (first | exact (Kd.R_reads' HO544.out).2.2 | (with_reducible refine Kd.C_alloc ?_ _) | (with_reducible refine Kd.C_drewN ?_ _) | (with_reducible refine Kd.C_drew ?_))); (case side2 => exact (Kd.R_reads' HO544.out).2.1); (case side3 => repeat (first | exact (Kd.R_reads' HO553.out).2.2 | (with_reducible refine Kd.C_alloc ?_ _) | (with_reducible refine Kd.C_drewN ?_ _) | (with_reducible refine Kd.C_drew ?_))); (case side4 => exact (Kd.R_reads' HO553.out).2.1); rintro e w36 ⟨rfl, hb⟩; refine ⟨_, rfl, ?_⟩; have n0_ := zK (Kd.R_below zq14 hb); have n1_ := zK (Kd.R_below zq16 hb); have n2_ := zK (Kd.R_below zq21 hb); have n3_ := zK (Kd.R_below zq27 hb); have n4_ := zK (Kd.R_below (by (with_reducible repeat (first | apply zR | apply zV | apply zW)); exact HO553.out) hb); have n5_ := zK (blk_below (g := gb541) (o := .cells #[.int .i64 t537, .slice Ao24 t538.length co24] 31 (0, 0)) (by (with_reducible repeat (first | refine zM ?_ _ | refine zP ?_ | refine zQ ?_ _)); exact BK541.out) hb); have n6_ := zK (blk_below (g := gb549) (o := .cells #[.int .i64 t545, .slice Ao31 t546.length co31] 31 (0, 0)) (by (with_reducible repeat (first | refine zM ?_ _ | refine zP ?_ | refine zQ ?_ _)); exact BK549.out) hb); have n7_ := zK (below_step (by repeat (first | (with_reducible first | exact HB.out | apply zA | apply zN | apply zD | refine below_set ?_ GE541.out | refine below_set ?_ GE549.out) | exact HB.out)) hb); clear HO536; clear HO540; clear HO544; clear HO548; clear HO553; clear BK541; clear BK549; clear HB; have HO536 := n0_; have HO540 := n1_; have HO544 := n2_; have HO548 := n3_; have HO553 := n4_; have BK541 := n5_; have BK549 := n6_; have HB := n7_; clear n0_ n1_ n2_ n3_ n4_ n5_ n6_ n7_; (try clear hb); (try clear hb2); (try clear hk); (try clear hi)) | ((with_reducible refine gate_callee (f := 16) rfl ?_); refine goesL_ (some 41) rfl rfl Tryz.func16 zq5 rfl #[.slice Ao26 t542.length co26, .int .i64 1] rfl zq1 ?_; (with_reducible refine (laws_markObjectS.calls k (fun k_ => some k_ = (.slice Ao26 t542.length co26 : Value).ownBlock) (.slice Ao26 t542.length co26) t542 1 t555 t556 w _ ?side1 ?side2 A16.out).mono ?_); (case side1 => repeat (first | (with_reducible first | exact HB.out | apply zA | apply zN | apply zD | refine below_set ?_ GE541.out | refine below_set ?_ GE549.out) | exact HB.out)); (case side2 => exact Kd.R_tight rfl HO544.out); rintro e w37 ⟨rfl, hy0, hb, hkp⟩; refine ⟨_, rfl, ?_⟩; have n0_ := zK (Kd.R_mono (ok' := fun k_ => some k_ ≠ (.slice Ao26 t542.length co26 : Value).ownBlock ∧ some k_ ≠ (.slice Ao35 t551.length co35 : Value).ownBlock) (Kd.R_keptB (HO536.out) hkp (fun k_ hk_ hs_ => (hk_.1.2) hs_)) (fun k_ hk_ => ⟨hk_.1.1.2, hk_.1.2⟩)); have n1_ := zK (Kd.R_mono (ok' := fun k_ => some k_ ≠ (.slice Ao31 t546.length co31 : Value).ownBlock) (Kd.R_keptB ((Kd.R_apart' HO540.out (Kd.R_typed HO544.out) zq9)) hkp (fun k_ hk_ hs_ => (hk_.2) hs_)) (fun k_ hk_ => hk_.1.1.2)); have n2_ := zK (blk_kept (by (with_reducible repeat (first | refine zM ?_ _ | refine zP ?_ | refine zQ ?_ _)); exact BK541.out) hkp (fun hs_ => (fun e_ => (Kd.R_ne HO544.out BK541.out zq9) e_) hs_)); have n3_ := zK (Kd.R_reok rfl hy0 (fun k_ e_ => HO544.out.1 k_ e_)); have n4_ := zK (Kd.R_mono (ok' := fun k_ => some k_ ≠ (.slice Ao24 t538.length co24 : Value).ownBlock) (Kd.R_keptB ((Kd.R_apart' HO548.out (Kd.R_typed HO544.out) zq9)) hkp (fun k_ hk_ hs_ => (hk_.2) hs_)) (fun k_ hk_ => hk_.1.1.2)); have n5_ := zK (blk_kept (by (with_reducible repeat (first | refine zM ?_ _ | refine zP ?_ | refine zQ ?_ _)); exact BK549.out) hkp (fun hs_ => (fun e_ => (Kd.R_ne HO544.out BK549.out zq9) e_) hs_)); have n6_ := zK (Kd.R_mono (ok' := fun k_ => some k_ ≠ (.slice Ao20 t534.length co20 : Value).ownBlock ∧ some k_ ≠ (.slice Ao26 t542.length co26 : Value).ownBlock) (Kd.R_keptB (HO553.out) hkp (fun k_ hk_ hs_ => (hk_.2) hs_)) (fun k_ hk_ => ⟨hk_.1.1.2, hk_.1.2⟩)); have n7_ := zK (hb); clear HO536; clear HO540; clear BK541; clear HO544; clear HO548; clear BK549; clear HO553; clear HB; have HO536 := n0_; have HO540 := n1_; have BK541 := n2_; have HO544 := n3_; have HO548 := n4_; have BK549 := n5_; have HO553 := n6_; have HB := n7_; clear n0_ n1_ n2_ n3_ n4_ n5_ n6_ n7_; (try clear hb); (try clear hkp); (try clear hy0)))
   (try simp only [Act.put, zS, zT, zU])
   go_cut [49] (fun v49 wc => ∃ (kq : Nat) (x49_16 : Bool), v49 = .bool x49_16 ∧ Aside0 (laws_FnExactHistoryOf.j0 kq l0 a1 x49_16 t537 t538 t545 t546 = some r) ∧ Aside0 (kq ≤ k) ∧ Aside0 (Kd.R Kd.string 9 wc w.heap.size (fun k_ => some k_ ≠ ((.slice Ao31 t546.length co31) : Value).ownBlock) (.slice Ao24 t538.length co24) t538) ∧ Aside0 (Kd.R Kd.string 9 wc w.heap.size (fun k_ => some k_ ≠ ((.slice Ao24 t538.length co24) : Value).ownBlock) (.slice Ao31 t546.length co31) t546) ∧ Aside0 (wc.heap[gb541]? = some (.cells #[.int .i64 t537, (.slice Ao24 t538.length co24)] 31 (0, 0))) ∧ Aside0 (wc.heap[gb549]? = some (.cells #[.int .i64 t545, (.slice Ao31 t546.length co31)] 31 (0, 0))) ∧ Aside0 (Below w.heap.size w wc))
   case first =>
    have H := HC17.out
    clear HC17
    by_cases c38 : t555 < 0
    ·
     rw [if_pos c38] at H
     have c38b0 : decide (t555 < 0) = true := decide_eq_true c38
     clear c38
     (first | rw [c38b0] | (simp only [i64_w, i32_w]; rw [c38b0]) | skip)
     have H' := zK H
     clear H
     go_wp2
     go_meet
     case rel => exact ⟨_, (true), zq4, H', ⟨by first | omega | exact Nat.le_refl _⟩, ⟨by (with_reducible repeat (first | apply zR | apply zV | apply zW)); exact HO540.out⟩, ⟨by (with_reducible repeat (first | apply zR | apply zV | apply zW)); exact HO548.out⟩, ⟨by (with_reducible repeat (first | refine zM ?_ _ | refine zP ?_ | refine zQ ?_ _)); exact BK541.out⟩, ⟨by (with_reducible repeat (first | refine zM ?_ _ | refine zP ?_ | refine zQ ?_ _)); exact BK549.out⟩, ⟨by repeat (first | (with_reducible first | exact HB.out | apply zA | apply zN | apply zD | refine below_set ?_ GE541.out | refine below_set ?_ GE549.out) | exact HB.out)⟩⟩
    rw [if_neg c38] at H
    have c38b0 : decide (t555 < 0) = false := decide_eq_false c38
    clear c38
    (first | rw [c38b0] | (simp only [i64_w, i32_w]; rw [c38b0]) | skip)
    replace H := Option.bind_eq_some_iff.mp H
    obtain ⟨t557, A390, H⟩ := H
    replace H : (laws_FnExactHistoryOf.j0 k l0 a1 (!t557) t537 t538 t545 t546) = some r := H
    have A39 := zK A390
    clear A390
    have H' := zK H
    clear H
    have hnb40 := NB549_541.out
    have hnc40 := NB541_549.out
    have hcz41_0 : w37.cell? ⟨gb549, 0, none⟩ = some (.int .i64 t545) := (blk_cell BK549.out 0).trans rfl
    have hcz41_1 : w37.cell? ⟨gb549, 1, none⟩ = some (.slice Ao31 t546.length co31) := (blk_cell BK549.out 1).trans rfl
    have hfz41_0 := blk_frozen BK549.out 0
    have hfz41_1 := blk_frozen BK549.out 1
    have hcz42_0 : w37.cell? ⟨gb541, 0, none⟩ = some (.int .i64 t537) := (blk_cell BK541.out 0).trans rfl
    have hcz42_1 : w37.cell? ⟨gb541, 1, none⟩ = some (.slice Ao24 t538.length co24) := (blk_cell BK541.out 1).trans rfl
    have hfz42_0 := blk_frozen BK541.out 0
    have hfz42_1 := blk_frozen BK541.out 1
    go_wp2_with (first | (go_at_call 15; (with_reducible refine (laws_eqLinesResult.calls k t545 _ _ t546 t537 _ _ t538 t557 _ ?side1 ?side2 ?side3 ?side4 A39.out).mono ?_); (case side1 => repeat (first | exact (Kd.R_reads' HO548.out).2.2 | (with_reducible refine Kd.C_alloc ?_ _) | (with_reducible refine Kd.C_drewN ?_ _) | (with_reducible refine Kd.C_drew ?_))); (case side2 => exact (Kd.R_reads' HO548.out).2.1); (case side3 => repeat (first | exact (Kd.R_reads' HO540.out).2.2 | (with_reducible refine Kd.C_alloc ?_ _) | (with_reducible refine Kd.C_drewN ?_ _) | (with_reducible refine Kd.C_drew ?_))); (case side4 => exact (Kd.R_reads' HO540.out).2.1); rintro e w43 ⟨rfl, hb⟩; have n0_ := zK (Kd.R_below zq14 hb); have n1_ := zK (Kd.R_below zq16 hb); have n2_ := zK (Kd.R_below zq21 hb); have n3_ := zK (Kd.R_below zq27 hb); have n4_ := zK (Kd.R_below (by (with_reducible repeat (first | apply zR | apply zV | apply zW)); exact HO553.out) hb); have n5_ := zK (blk_below (g := gb541) (o := .cells #[.int .i64 t537, .slice Ao24 t538.length co24] 31 (0, 0)) (by (with_reducible repeat (first | refine zM ?_ _ | refine zP ?_ | refine zQ ?_ _)); exact BK541.out) hb); have n6_ := zK (blk_below (g := gb549) (o := .cells #[.int .i64 t545, .slice Ao31 t546.length co31] 31 (0, 0)) (by (with_reducible repeat (first | refine zM ?_ _ | refine zP ?_ | refine zQ ?_ _)); exact BK549.out) hb); have n7_ := zK (below_step (by repeat (first | (with_reducible first | exact HB.out | apply zA | apply zN | apply zD | refine below_set ?_ GE541.out | refine below_set ?_ GE549.out) | exact HB.out)) hb); clear HO536; clear HO540; clear HO544; clear HO548; clear HO553; clear BK541; clear BK549; clear HB; have HO536 := n0_; have HO540 := n1_; have HO544 := n2_; have HO548 := n3_; have HO553 := n4_; have BK541 := n5_; have BK549 := n6_; have HB := n7_; clear n0_ n1_ n2_ n3_ n4_ n5_ n6_ n7_; (try clear hb); (try clear hb2); (try clear hk); (try clear hi)))
    go_meet
    case rel => exact ⟨_, (!t557), zq4, H', ⟨by first | omega | exact Nat.le_refl _⟩, ⟨by (with_reducible repeat (first | apply zR | apply zV | apply zW)); exact HO540.out⟩, ⟨by (with_reducible repeat (first | apply zR | apply zV | apply zW)); exact HO548.out⟩, ⟨by (with_reducible repeat (first | refine zM ?_ _ | refine zP ?_ | refine zQ ?_ _)); exact BK541.out⟩, ⟨by (with_reducible repeat (first | refine zM ?_ _ | refine zP ?_ | refine zQ ?_ _)); exact BK549.out⟩, ⟨by repeat (first | (with_reducible first | exact HB.out | apply zA | apply zN | apply zD | refine below_set ?_ GE541.out | refine below_set ?_ GE549.out) | exact HB.out)⟩⟩
   case rest =>
    clear HC17
    try clear c1
    try clear c2
    try clear p2
    try clear c3
    try clear c3b0
    try clear c3b1
    try clear c4
    try clear c5
    try clear c5b0
    try clear c8
    try clear c10
    try clear c12
    try clear c13
    try clear c14
    try clear c15
    try clear c16
    try clear c29
    try clear c38
    try clear c38b0
    try clear c40
    try clear hcz23_0
    try clear hcz23_1
    try clear hcz30_0
    try clear hcz30_1
    try clear hcz32_0
    try clear hcz32_1
    try clear hcz41_0
    try clear hcz41_1
    try clear hcz42_0
    try clear hcz42_1
    try clear hfz23_0
    try clear hfz23_1
    try clear hfz30_0
    try clear hfz30_1
    try clear hfz32_0
    try clear hfz32_1
    try clear hfz41_0
    try clear hfz41_1
    try clear hfz42_0
    try clear hfz42_1
    obtain ⟨kq, x49_16, rfl, HA, HJ16, HO_542001, HO_550001, BK541, BK549, HB⟩ := hcut
    cases kq with
    | zero => exact absurd HA.out (by simp [laws_FnExactHistoryOf.j0])
    | succ kj16 =>
     have H := HA.out
     clear HA
     simp only [laws_FnExactHistoryOf.j0] at H
     by_cases c44 : x49_16 = true
     ·
      subst c44
      have H1 : (some false) = some r := by rw [if_pos rfl] at H; exact H
      clear H
      have H := H1
      clear H1
      exact absurd ((Option.some.inj H).trans hT_) zq9
     replace c44 := Bool.eq_false_iff.mpr c44
     subst c44
     have H1 : ((laws_markLinesResult.f kj16 t545 t546 1).bind fun bt558 => ((laws_heldLinesResult.f kj16 t545 bt558.2 1).bind fun t560 => (if t560 < 0 then (some false) else (if t560 = bt558.1 then ((laws_toObjectS.f kj16 l0).bind fun t561 => ((impl_HistoryOf.f kj16 t561 a1).bind fun bt564 => ((laws_eqLinesResult.f kj16 bt564.1 bt564.2 t537 t538).bind fun t569 => (if t569 = true then ((laws_heldLinesResult.f kj16 t545 bt558.2 1).bind fun t570 => (if t570 < 0 then (some false) else (if t570 = bt558.1 then (some true) else (some false)))) else (some false))))) else (some false))))) = some r := by rw [if_neg (show ¬ (false = true) by decide)] at H; exact H
     clear H
     have H := H1
     clear H1
     replace H := Option.bind_eq_some_iff.mp H
     obtain ⟨⟨t558, t559⟩, A450, H⟩ := H
     replace H : ((laws_heldLinesResult.f kj16 t545 t559 1).bind fun t560 => (if t560 < 0 then (some false) else (if t560 = t558 then ((laws_toObjectS.f kj16 l0).bind fun t561 => ((impl_HistoryOf.f kj16 t561 a1).bind fun bt564 => ((laws_eqLinesResult.f kj16 bt564.1 bt564.2 t537 t538).bind fun t569 => (if t569 = true then ((laws_heldLinesResult.f kj16 t545 t559 1).bind fun t570 => (if t570 < 0 then (some false) else (if t570 = t558 then (some true) else (some false)))) else (some false))))) else (some false)))) = some r := H
     have A45 := zK A450
     clear A450
     replace H := Option.bind_eq_some_iff.mp H
     obtain ⟨t560, A460, H⟩ := H
     replace H : (if t560 < 0 then (some false) else (if t560 = t558 then ((laws_toObjectS.f kj16 l0).bind fun t561 => ((impl_HistoryOf.f kj16 t561 a1).bind fun bt564 => ((laws_eqLinesResult.f kj16 bt564.1 bt564.2 t537 t538).bind fun t569 => (if t569 = true then ((laws_heldLinesResult.f kj16 t545 t559 1).bind fun t570 => (if t570 < 0 then (some false) else (if t570 = t558 then (some true) else (some false)))) else (some false))))) else (some false))) = some r := H
     have A46 := zK A460
     clear A460
     by_cases c47 : t560 < 0
     ·
      rw [if_pos c47] at H
      have c47b0 : decide (t560 < 0) = true := decide_eq_true c47
      clear c47
      exact absurd ((Option.some.inj H).trans hT_) zq9
     rw [if_neg c47] at H
     have c47b0 : decide (t560 < 0) = false := decide_eq_false c47
     clear c47
     by_cases c53 : t560 = t558
     ·
      rw [if_pos c53] at H
      have c53b0 : (t560 == t558) = true := beq_iff_eq.mpr c53
      have c53b1 : (t560 != t558) = false := bne_eq_false_iff_eq.mpr c53
      clear c53
      replace H := Option.bind_eq_some_iff.mp H
      obtain ⟨t561, A540, H⟩ := H
      replace H : ((impl_HistoryOf.f kj16 t561 a1).bind fun bt564 => ((laws_eqLinesResult.f kj16 bt564.1 bt564.2 t537 t538).bind fun t569 => (if t569 = true then ((laws_heldLinesResult.f kj16 t545 t559 1).bind fun t570 => (if t570 < 0 then (some false) else (if t570 = t558 then (some true) else (some false)))) else (some false)))) = some r := H
      have A54 := zK A540
      clear A540
      replace H := Option.bind_eq_some_iff.mp H
      obtain ⟨⟨t564, t565⟩, A550, H⟩ := H
      replace H : ((laws_eqLinesResult.f kj16 t564 t565 t537 t538).bind fun t569 => (if t569 = true then ((laws_heldLinesResult.f kj16 t545 t559 1).bind fun t570 => (if t570 < 0 then (some false) else (if t570 = t558 then (some true) else (some false)))) else (some false))) = some r := H
      have A55 := zK A550
      clear A550
      replace H := Option.bind_eq_some_iff.mp H
      obtain ⟨t569, A560, H⟩ := H
      replace H : (if t569 = true then ((laws_heldLinesResult.f kj16 t545 t559 1).bind fun t570 => (if t570 < 0 then (some false) else (if t570 = t558 then (some true) else (some false)))) else (some false)) = some r := H
      have A56 := zK A560
      clear A560
      by_cases c57 : t569 = true
      ·
       subst c57
       have H1 : ((laws_heldLinesResult.f kj16 t545 t559 1).bind fun t570 => (if t570 < 0 then (some false) else (if t570 = t558 then (some true) else (some false)))) = some r := by rw [if_pos rfl] at H; exact H
       clear H
       have H := H1
       clear H1
       replace H := Option.bind_eq_some_iff.mp H
       obtain ⟨t570, A580, H⟩ := H
       replace H : (if t570 < 0 then (some false) else (if t570 = t558 then (some true) else (some false))) = some r := H
       have A58 := zK A580
       clear A580
       by_cases c59 : t570 < 0
       ·
        rw [if_pos c59] at H
        have c59b0 : decide (t570 < 0) = true := decide_eq_true c59
        clear c59
        exact absurd ((Option.some.inj H).trans hT_) zq9
       rw [if_neg c59] at H
       have c59b0 : decide (t570 < 0) = false := decide_eq_false c59
       clear c59
       by_cases c77 : t570 = t558
       ·
        rw [if_pos c77] at H
        have c77b0 : (t570 == t558) = true := beq_iff_eq.mpr c77
        have c77b1 : (t570 != t558) = false := bne_eq_false_iff_eq.mpr c77
        clear c77
        obtain rfl := Option.some.inj H
        have hnb78 := NB549_541.out
        have hnc78 := NB541_549.out
        have hcz79_0 : wc.cell? ⟨gb549, 0, none⟩ = some (.int .i64 t545) := (blk_cell BK549.out 0).trans rfl
        have hcz79_1 : wc.cell? ⟨gb549, 1, none⟩ = some (.slice Ao31 t546.length co31) := (blk_cell BK549.out 1).trans rfl
        have hfz79_0 := blk_frozen BK549.out 0
        have hfz79_1 := blk_frozen BK549.out 1
        go_wp2_with (first | ((with_reducible refine gate_callee (f := 17) rfl ?_); refine goesL_ (some 52) rfl rfl Tryz.func17 zq5 rfl #[.agg #[.int .i64 t545, .slice Ao31 t546.length co31], .int .i64 1] rfl zq1 ?_; (with_reducible refine (laws_markLinesResult.calls kj16 t545 (fun k_ => some k_ = (.slice Ao31 t546.length co31 : Value).ownBlock) (.slice Ao31 t546.length co31) t546 1 t558 t559 w _ ?side1 ?side2 A45.out).mono ?_); (case side1 => repeat (first | (with_reducible first | exact HB.out | apply zA | apply zN | apply zD | refine below_set ?_ GE541.out | refine below_set ?_ GE549.out) | exact HB.out)); (case side2 => exact Kd.R_tight rfl HO_550001.out); rintro e w80 ⟨rfl, hy0, hb, hkp⟩; refine ⟨_, rfl, ?_⟩; have n0_ := zK (Kd.R_mono (ok' := fun k_ => some k_ ≠ (.slice Ao31 t546.length co31 : Value).ownBlock) (Kd.R_keptB (HO_542001.out) hkp (fun k_ hk_ hs_ => (hk_) hs_)) (fun k_ hk_ => hk_.1)); have n1_ := zK (Kd.R_reok rfl hy0 (fun k_ e_ => HO_550001.out.1 k_ e_)); have n2_ := zK (blk_kept (by (with_reducible repeat (first | refine zM ?_ _ | refine zP ?_ | refine zQ ?_ _)); exact BK541.out) hkp (fun hs_ => (fun e_ => (Kd.R_ne HO_550001.out BK541.out zq9) e_) hs_)); have n3_ := zK (blk_kept (by (with_reducible repeat (first | refine zM ?_ _ | refine zP ?_ | refine zQ ?_ _)); exact BK549.out) hkp (fun hs_ => (fun e_ => (Kd.R_ne HO_550001.out BK549.out zq9) e_) hs_)); have n4_ := zK (hb); clear HO_542001; clear HO_550001; clear BK541; clear BK549; clear HB; have HO_542001 := n0_; have HO_550001 := n1_; have BK541 := n2_; have BK549 := n3_; have HB := n4_; clear n0_ n1_ n2_ n3_ n4_; (try clear hb); (try clear hkp); (try clear hy0); have hcz81_0 : w80.cell? ⟨gb549, 0, none⟩ = some (.int .i64 t545) := (blk_cell BK549.out 0).trans rfl; have hcz81_1 : w80.cell? ⟨gb549, 1, none⟩ = some (.slice Ao31 t546.length co31) := (blk_cell BK549.out 1).trans rfl; have hfz81_0 := blk_frozen BK549.out 0; have hfz81_1 := blk_frozen BK549.out 1) | ((with_reducible refine gate_callee (f := 18) rfl ?_); refine goesL_ (some 55) rfl rfl Tryz.func18 zq5 rfl #[.agg #[.int .i64 t545, .slice Ao31 t559.length co31], .int .i64 1] rfl zq30 ?_; (with_reducible refine (laws_heldLinesResult.calls kj16 t545 _ _ t559 1 t560 _ ?side1 ?side2 A46.out).mono ?_); (case side1 => repeat (first | exact (Kd.R_reads' HO_550001.out).2.2 | (with_reducible refine Kd.C_alloc ?_ _) | (with_reducible refine Kd.C_drewN ?_ _) | (with_reducible refine Kd.C_drew ?_))); (case side2 => rw [show t559.length = t546.length from (Kd.R_reads' HO_550001.out).1.symm]; exact (Kd.R_reads' HO_550001.out).2.1); rintro e w82 ⟨rfl, hb⟩; refine ⟨_, rfl, ?_⟩; have n0_ := zK (Kd.R_below zq19 hb); have n1_ := zK (Kd.R_below zq18 hb); have n2_ := zK (blk_below (g := gb541) (o := .cells #[.int .i64 t537, .slice Ao24 t538.length co24] 31 (0, 0)) (by (with_reducible repeat (first | refine zM ?_ _ | refine zP ?_ | refine zQ ?_ _)); exact BK541.out) hb); have n3_ := zK (blk_below (g := gb549) (o := .cells #[.int .i64 t545, .slice Ao31 t546.length co31] 31 (0, 0)) (by (with_reducible repeat (first | refine zM ?_ _ | refine zP ?_ | refine zQ ?_ _)); exact BK549.out) hb); have n4_ := zK (below_step (by repeat (first | (with_reducible first | exact HB.out | apply zA | apply zN | apply zD | refine below_set ?_ GE541.out | refine below_set ?_ GE549.out) | exact HB.out)) hb); clear HO_542001; clear HO_550001; clear BK541; clear BK549; clear HB; have HO_542001 := n0_; have HO_550001 := n1_; have BK541 := n2_; have BK549 := n3_; have HB := n4_; clear n0_ n1_ n2_ n3_ n4_; (try clear hb); (try clear hb2); (try clear hk); (try clear hi)) | ((with_reducible refine gate_callee (f := 10) rfl ?_); refine goesL_ (some 62) rfl rfl Tryz.func10 zq5 rfl #[.slice A0 l0.length c0] rfl zq1 ?_; (with_reducible refine (laws_toObjectS.calls kj16 _ _ l0 t561 _ ?side1 ?side2 A54.out).mono ?_); (case side1 => repeat (first | exact (Kd.C_below HR0.out HB.out) | (with_reducible refine Kd.C_alloc ?_ _) | (with_reducible refine Kd.C_drewN ?_ _) | (with_reducible refine Kd.C_drew ?_))); (case side2 => exact HC0.out); rintro e w83 ⟨v562, rfl, ho0, hb⟩; refine ⟨_, rfl, ?_⟩; have n0_ := zK (Kd.R_below zq19 hb); have n1_ := zK (Kd.R_below zq18 hb); have n2_ := zK (Kd.R_lower ho0 (below_size (by repeat (first | (with_reducible first | exact HB.out | apply zA | apply zN | apply zD | refine below_set ?_ GE541.out | refine below_set ?_ GE549.out) | exact HB.out)))); have n3_ := zK (blk_below (g := gb541) (o := .cells #[.int .i64 t537, .slice Ao24 t538.length co24] 31 (0, 0)) (by (with_reducible repeat (first | refine zM ?_ _ | refine zP ?_ | refine zQ ?_ _)); exact BK541.out) hb); have n4_ := zK (blk_below (g := gb549) (o := .cells #[.int .i64 t545, .slice Ao31 t546.length co31] 31 (0, 0)) (by (with_reducible repeat (first | refine zM ?_ _ | refine zP ?_ | refine zQ ?_ _)); exact BK549.out) hb); have n5_ := zK (below_step (by repeat (first | (with_reducible first | exact HB.out | apply zA | apply zN | apply zD | refine below_set ?_ GE541.out | refine below_set ?_ GE549.out) | exact HB.out)) hb); clear HO_542001; clear HO_550001; clear BK541; clear BK549; clear HB; have HO_542001 := n0_; have HO_550001 := n1_; have HO563 := n2_; have BK541 := n3_; have BK549 := n4_; have HB := n5_; clear n0_ n1_ n2_ n3_ n4_ n5_; (try clear hb); (try clear hb2); (try clear hk); (try clear hi); (try clear ho0); obtain ⟨Ao84, co84, eo84⟩ := Kd.R_slice HO563.out; subst eo84) | ((with_reducible refine gate_callee (f := 14) rfl ?_); refine goesL_ (some 64) rfl rfl Tryz.func14 zq5 rfl #[.slice Ao84 t561.length co84, .string a1] rfl zq1 ?_; (with_reducible refine (impl_HistoryOf.calls kj16 _ _ t561 a1 t564 t565 _ ?side1 ?side2 (Gt.below HG.out (by repeat (first | (with_reducible first | exact HB.out | apply zA | apply zN | apply zD | refine below_set ?_ GE541.out | refine below_set ?_ GE549.out) | exact HB.out))) A55.out).mono ?_); (case side1 => repeat (first | exact (Kd.R_reads' HO563.out).2.2 | (with_reducible refine Kd.C_alloc ?_ _) | (with_reducible refine Kd.C_drewN ?_ _) | (with_reducible refine Kd.C_drew ?_))); (case side2 => exact (Kd.R_reads' HO563.out).2.1); rintro e w85 ⟨v566, rfl, ho0, hb⟩; refine ⟨_, rfl, ?_⟩; have n0_ := zK (Kd.R_elder' zq19 (Kd.R_base ho0) hb); have n1_ := zK (Kd.R_elder' zq18 (Kd.R_base ho0) hb); have n2_ := zK (Kd.R_below zq34 hb); have n3_ := zK (Kd.R_lower (Kd.R_new' (Kd.R_new' ho0 (Kd.R_lt zq19)) (Kd.R_lt zq18)) (below_size (by repeat (first | (with_reducible first | exact HB.out | apply zA | apply zN | apply zD | refine below_set ?_ GE541.out | refine below_set ?_ GE549.out) | exact HB.out)))); have n4_ := zK (blk_below (g := gb541) (o := .cells #[.int .i64 t537, .slice Ao24 t538.length co24] 31 (0, 0)) (by (with_reducible repeat (first | refine zM ?_ _ | refine zP ?_ | refine zQ ?_ _)); exact BK541.out) hb); have n5_ := zK (blk_below (g := gb549) (o := .cells #[.int .i64 t545, .slice Ao31 t546.length co31] 31 (0, 0)) (by (with_reducible repeat (first | refine zM ?_ _ | refine zP ?_ | refine zQ ?_ _)); exact BK549.out) hb); have n6_ := zK (below_step (by repeat (first | (with_reducible first | exact HB.out | apply zA | apply zN | apply zD | refine below_set ?_ GE541.out | refine below_set ?_ GE549.out) | exact HB.out)) hb); clear HO_542001; clear HO_550001; clear HO563; clear BK541; clear BK549; clear HB; have HO_542001 := n0_; have HO_550001 := n1_; have HO563 := n2_; have HO567 := n3_; have BK541 := n4_; have BK549 := n5_; have HB := n6_; clear n0_ n1_ n2_ n3_ n4_ n5_ n6_; (try clear hb); (try clear hb2); (try clear hk); (try clear hi); (try clear ho0)) | ((with_reducible refine gate_dst (N := 12) rfl ?_); refine box_event ?hg (N := 12) ?hd (cs := #[.int .i64 0, .slice none 0 0]) (t := 31) ?hr ?_; (case hd => rfl); (case hg => rfl); (case hr => first | (go_simp; done) | (go_simp; rfl)); intro gb568 hg w86 hbox hb; have n0_ := zK (Kd.R_below zq19 hb); have n1_ := zK (Kd.R_below zq18 hb); have n2_ := zK (Kd.R_below zq34 hb); have n3_ := zK (Kd.R_below (by (with_reducible repeat (first | apply zR | apply zV | apply zW)); exact HO567.out) hb); have n4_ := zK (blk_below (g := gb541) (o := .cells #[.int .i64 t537, .slice Ao24 t538.length co24] 31 (0, 0)) (by (with_reducible repeat (first | refine zM ?_ _ | refine zP ?_ | refine zQ ?_ _)); exact BK541.out) hb); have n5_ := zK (blk_below (g := gb549) (o := .cells #[.int .i64 t545, .slice Ao31 t546.length co31] 31 (0, 0)) (by (with_reducible repeat (first | refine zM ?_ _ | refine zP ?_ | refine zQ ?_ _)); exact BK549.out) hb); have n6_ := zK (below_step (by repeat (first | (with_reducible first | exact HB.out | apply zA | apply zN | apply zD | refine below_set ?_ GE541.out | refine below_set ?_ GE549.out) | exact HB.out)) hb); have n7_ := zK (hbox); have n8_ := zK ((by rw [hg]; exact (below_size (by repeat (first | (with_reducible first | exact HB.out | apply zA | apply zN | apply zD | refine below_set ?_ GE541.out | refine below_set ?_ GE549.out) | exact HB.out))) : w.heap.size ≤ gb568)); have n9_ := zK ((by rw [hg]; exact (below_size (by repeat (first | (with_reducible first | exact HB.out | apply zA | apply zN | apply zD | refine below_set ?_ GE541.out | refine below_set ?_ GE549.out) | exact HB.out))) : w.heap.size ≤ gb568)); have n10_ := zK ((by rw [hg]; exact Nat.ne_of_lt (blk_lt (g := gb541) (o := .cells #[.int .i64 t537, .slice Ao24 t538.length co24] 31 (0, 0)) (by (with_reducible repeat (first | refine zM ?_ _ | refine zP ?_ | refine zQ ?_ _)); exact BK541.out)) : gb541 ≠ gb568)); have n11_ := zK ((by rw [hg]; exact Nat.ne_of_gt (blk_lt (g := gb541) (o := .cells #[.int .i64 t537, .slice Ao24 t538.length co24] 31 (0, 0)) (by (with_reducible repeat (first | refine zM ?_ _ | refine zP ?_ | refine zQ ?_ _)); exact BK541.out)) : gb568 ≠ gb541)); have n12_ := zK ((by rw [hg]; exact Nat.ne_of_lt (blk_lt (g := gb549) (o := .cells #[.int .i64 t545, .slice Ao31 t546.length co31] 31 (0, 0)) (by (with_reducible repeat (first | refine zM ?_ _ | refine zP ?_ | refine zQ ?_ _)); exact BK549.out)) : gb549 ≠ gb568)); have n13_ := zK ((by rw [hg]; exact Nat.ne_of_gt (blk_lt (g := gb549) (o := .cells #[.int .i64 t545, .slice Ao31 t546.length co31] 31 (0, 0)) (by (with_reducible repeat (first | refine zM ?_ _ | refine zP ?_ | refine zQ ?_ _)); exact BK549.out)) : gb568 ≠ gb549)); clear HO_542001; clear HO_550001; clear HO563; clear HO567; clear BK541; clear BK549; clear HB; have HO_542001 := n0_; have HO_550001 := n1_; have HO563 := n2_; have HO567 := n3_; have BK541 := n4_; have BK549 := n5_; have HB := n6_; have BK568 := n7_; have GW568 := n8_; have GE568 := n9_; have NB541_568 := n10_; have NB568_541 := n11_; have NB549_568 := n12_; have NB568_549 := n13_; clear n0_ n1_ n2_ n3_ n4_ n5_ n6_ n7_ n8_ n9_ n10_ n11_ n12_ n13_; clear hb hbox hg; have hnb87 := NB568_541.out; have hnc87 := NB541_568.out; have hnb88 := NB568_549.out; have hnc88 := NB549_568.out; have hcz89_0 : w86.cell? ⟨gb568, 0, none⟩ = some (.int .i64 0) := (blk_cell BK568.out 0).trans rfl; have hcz89_1 : w86.cell? ⟨gb568, 1, none⟩ = some (.slice none 0 0) := (blk_cell BK568.out 1).trans rfl; have hfz89_0 := blk_frozen BK568.out 0; have hfz89_1 := blk_frozen BK568.out 1; obtain ⟨Ao90, co90, eo90⟩ := Kd.R_slice HO567.out; subst eo90; have hcz91_0 : w86.cell? ⟨gb541, 0, none⟩ = some (.int .i64 t537) := (blk_cell BK541.out 0).trans rfl; have hcz91_1 : w86.cell? ⟨gb541, 1, none⟩ = some (.slice Ao24 t538.length co24) := (blk_cell BK541.out 1).trans rfl; have hfz91_0 := blk_frozen BK541.out 0; have hfz91_1 := blk_frozen BK541.out 1) | ((with_reducible refine gate_callee (f := 15) rfl ?_); refine goesL_ (some 67) rfl rfl Tryz.func15 zq5 rfl #[.agg #[.int .i64 t564, .slice Ao90 t565.length co90], .agg #[.int .i64 t537, .slice Ao24 t538.length co24]] rfl zq1 ?_; (with_reducible refine (laws_eqLinesResult.calls kj16 t564 _ _ t565 t537 _ _ t538 true _ ?side1 ?side2 ?side3 ?side4 A56.out).mono ?_); (case side1 => refine (Kd.R_reads' (e := 9) (base := w.heap.size) (ok := fun k_ => ((True ∧ some k_ ≠ (.slice Ao24 t538.length co24 : Value).ownBlock) ∧ some k_ ≠ (.slice Ao31 t546.length co31 : Value).ownBlock)) (n := t565.length) (c := co90) ?_).2.2; exact (by (with_reducible repeat (first | apply zR | apply zV | apply zW)); exact (Kd.R_mono (Kd.R_far (p := ⟨gb568, 1, none⟩) (Kd.R_far (p := ⟨gb568, 0, none⟩) (Kd.R_types HO567.out BK568.out zq9) (fun _ hk => hk.2) (.int .i64 t564)) (fun _ hk => hk.2) (.slice Ao90 t565.length co90)) (fun _ h_ => h_.1)))); (case side2 => exact (Kd.R_reads' HO567.out).2.1); (case side3 => refine (Kd.R_reads' (e := 9) (base := w.heap.size) (ok := fun k_ => (some k_ ≠ (.slice Ao31 t546.length co31 : Value).ownBlock ∧ some k_ ≠ (.slice Ao90 t565.length co90 : Value).ownBlock)) (n := t538.length) (c := co24) ?_).2.2; exact (by (with_reducible repeat (first | apply zR | apply zV | apply zW)); exact (Kd.R_mono (Kd.R_far (p := ⟨gb568, 1, none⟩) (Kd.R_far (p := ⟨gb568, 0, none⟩) (Kd.R_types HO_542001.out BK568.out zq9) (fun _ hk => hk.2) (.int .i64 t564)) (fun _ hk => hk.2) (.slice Ao90 t565.length co90)) (fun _ h_ => h_.1)))); (case side4 => exact (Kd.R_reads' HO_542001.out).2.1); rintro e w92 ⟨rfl, hb⟩; refine ⟨_, rfl, ?_⟩; have n0_ := zK (Kd.R_below (by (with_reducible repeat (first | apply zR | apply zV | apply zW)); exact (Kd.R_mono (Kd.R_far (p := ⟨gb568, 1, none⟩) (Kd.R_far (p := ⟨gb568, 0, none⟩) (Kd.R_types HO_542001.out BK568.out zq9) (fun _ hk => hk.2) (.int .i64 t564)) (fun _ hk => hk.2) (.slice Ao90 t565.length co90)) (fun _ h_ => h_.1))) hb); have n1_ := zK (Kd.R_below (by (with_reducible repeat (first | apply zR | apply zV | apply zW)); exact (Kd.R_mono (Kd.R_far (p := ⟨gb568, 1, none⟩) (Kd.R_far (p := ⟨gb568, 0, none⟩) (Kd.R_types HO_550001.out BK568.out zq9) (fun _ hk => hk.2) (.int .i64 t564)) (fun _ hk => hk.2) (.slice Ao90 t565.length co90)) (fun _ h_ => h_.1))) hb); have n2_ := zK (Kd.R_below (by (with_reducible repeat (first | apply zR | apply zV | apply zW)); exact (Kd.R_mono (Kd.R_far (p := ⟨gb568, 1, none⟩) (Kd.R_far (p := ⟨gb568, 0, none⟩) (Kd.R_types HO563.out BK568.out zq9) (fun _ hk => hk.2) (.int .i64 t564)) (fun _ hk => hk.2) (.slice Ao90 t565.length co90)) (fun _ h_ => h_.1))) hb); have n3_ := zK (Kd.R_below (by (with_reducible repeat (first | apply zR | apply zV | apply zW)); exact (Kd.R_mono (Kd.R_far (p := ⟨gb568, 1, none⟩) (Kd.R_far (p := ⟨gb568, 0, none⟩) (Kd.R_types HO567.out BK568.out zq9) (fun _ hk => hk.2) (.int .i64 t564)) (fun _ hk => hk.2) (.slice Ao90 t565.length co90)) (fun _ h_ => h_.1))) hb); have n4_ := zK (blk_below (g := gb541) (o := .cells #[.int .i64 t537, .slice Ao24 t538.length co24] 31 (0, 0)) (by (with_reducible repeat (first | refine zM ?_ _ | refine zP ?_ | refine zQ ?_ _)); refine blk_far ?_ NB541_568.out _; (with_reducible repeat (first | refine zM ?_ _ | refine zP ?_ | refine zQ ?_ _)); refine blk_far ?_ NB541_568.out _; (with_reducible repeat (first | refine zM ?_ _ | refine zP ?_ | refine zQ ?_ _)); exact BK541.out) hb); have n5_ := zK (blk_below (g := gb549) (o := .cells #[.int .i64 t545, .slice Ao31 t546.length co31] 31 (0, 0)) (by (with_reducible repeat (first | refine zM ?_ _ | refine zP ?_ | refine zQ ?_ _)); refine blk_far ?_ NB549_568.out _; (with_reducible repeat (first | refine zM ?_ _ | refine zP ?_ | refine zQ ?_ _)); refine blk_far ?_ NB549_568.out _; (with_reducible repeat (first | refine zM ?_ _ | refine zP ?_ | refine zQ ?_ _)); exact BK549.out) hb); have n6_ := zK (blk_below (g := gb568) (o := .cells #[.int .i64 t564, .slice Ao90 t565.length co90] 31 (0, 0)) (by (with_reducible repeat (first | refine zM ?_ _ | refine zP ?_ | refine zQ ?_ _)); refine blk_put (cs := #[.int .i64 t564, .slice none 0 0]) ?_ 1 _ rfl; (with_reducible repeat (first | refine zM ?_ _ | refine zP ?_ | refine zQ ?_ _)); refine blk_put (cs := #[.int .i64 0, .slice none 0 0]) ?_ 0 _ rfl; (with_reducible repeat (first | refine zM ?_ _ | refine zP ?_ | refine zQ ?_ _)); exact BK568.out) hb); have n7_ := zK (below_step (by repeat (first | (with_reducible first | exact HB.out | apply zA | apply zN | apply zD | refine below_set ?_ GE541.out | refine below_set ?_ GE549.out | refine below_set ?_ GE568.out) | exact HB.out)) hb); clear HO_542001; clear HO_550001; clear HO563; clear HO567; clear BK541; clear BK549; clear BK568; clear HB; have HO_542001 := n0_; have HO_550001 := n1_; have HO563 := n2_; have HO567 := n3_; have BK541 := n4_; have BK549 := n5_; have BK568 := n6_; have HB := n7_; clear n0_ n1_ n2_ n3_ n4_ n5_ n6_ n7_; (try clear hb); (try clear hb2); (try clear hk); (try clear hi); have hcz93_0 : w92.cell? ⟨gb549, 0, none⟩ = some (.int .i64 t545) := (blk_cell BK549.out 0).trans rfl; have hcz93_1 : w92.cell? ⟨gb549, 1, none⟩ = some (.slice Ao31 t546.length co31) := (blk_cell BK549.out 1).trans rfl; have hfz93_0 := blk_frozen BK549.out 0; have hfz93_1 := blk_frozen BK549.out 1) | ((with_reducible refine gate_callee (f := 18) rfl ?_); refine goesL_ (some 71) rfl rfl Tryz.func18 zq5 rfl #[.agg #[.int .i64 t545, .slice Ao31 t559.length co31], .int .i64 1] rfl zq30 ?_; (with_reducible refine (laws_heldLinesResult.calls kj16 t545 _ _ t559 1 t570 _ ?side1 ?side2 A58.out).mono ?_); (case side1 => repeat (first | exact (Kd.R_reads' HO_550001.out).2.2 | (with_reducible refine Kd.C_alloc ?_ _) | (with_reducible refine Kd.C_drewN ?_ _) | (with_reducible refine Kd.C_drew ?_))); (case side2 => rw [show t559.length = t546.length from (Kd.R_reads' HO_550001.out).1.symm]; exact (Kd.R_reads' HO_550001.out).2.1); rintro e w94 ⟨rfl, hb⟩; refine ⟨_, rfl, ?_⟩; have n0_ := zK (Kd.R_below zq19 hb); have n1_ := zK (Kd.R_below zq18 hb); have n2_ := zK (Kd.R_below zq34 hb); have n3_ := zK (Kd.R_below (by (with_reducible repeat (first | apply zR | apply zV | apply zW)); exact HO567.out) hb); have n4_ := zK (blk_below (g := gb541) (o := .cells #[.int .i64 t537, .slice Ao24 t538.length co24] 31 (0, 0)) (by (with_reducible repeat (first | refine zM ?_ _ | refine zP ?_ | refine zQ ?_ _)); exact BK541.out) hb); have n5_ := zK (blk_below (g := gb549) (o := .cells #[.int .i64 t545, .slice Ao31 t546.length co31] 31 (0, 0)) (by (with_reducible repeat (first | refine zM ?_ _ | refine zP ?_ | refine zQ ?_ _)); exact BK549.out) hb); have n6_ := zK (blk_below (g := gb568) (o := .cells #[.int .i64 t564, .slice Ao90 t565.length co90] 31 (0, 0)) (by (with_reducible repeat (first | refine zM ?_ _ | refine zP ?_ | refine zQ ?_ _)); exact BK568.out) hb); have n7_ := zK (below_step (by repeat (first | (with_reducible first | exact HB.out | apply zA | apply zN | apply zD | refine below_set ?_ GE541.out | refine below_set ?_ GE549.out | refine below_set ?_ GE568.out) | exact HB.out)) hb); clear HO_542001; clear HO_550001; clear HO563; clear HO567; clear BK541; clear BK549; clear BK568; clear HB; have HO_542001 := n0_; have HO_550001 := n1_; have HO563 := n2_; have HO567 := n3_; have BK541 := n4_; have BK549 := n5_; have BK568 := n6_; have HB := n7_; clear n0_ n1_ n2_ n3_ n4_ n5_ n6_ n7_; (try clear hb); (try clear hb2); (try clear hk); (try clear hi)))
        go_ret
        exact ⟨zq3, (by repeat (first | (with_reducible first | exact HB.out | apply zA | apply zN | apply zD | refine below_set ?_ GE541.out | refine below_set ?_ GE549.out | refine below_set ?_ GE568.out) | exact HB.out))⟩
       rw [if_neg c77] at H
       have c77b0 : (t570 == t558) = false := beq_eq_false_iff_ne.mpr c77
       have c77b1 : (t570 != t558) = true := bne_iff_ne.mpr c77
       exact absurd ((Option.some.inj H).trans hT_) zq9
      replace c57 := Bool.eq_false_iff.mpr c57
      subst c57
      have H1 : (some false) = some r := by rw [if_neg (show ¬ (false = true) by decide)] at H; exact H
      clear H
      have H := H1
      clear H1
      exact absurd ((Option.some.inj H).trans hT_) zq9
     rw [if_neg c53] at H
     have c53b0 : (t560 == t558) = false := beq_eq_false_iff_ne.mpr c53
     have c53b1 : (t560 != t558) = true := bne_iff_ne.mpr c53
     exact absurd ((Option.some.inj H).trans hT_) zq9
  replace c15 := Bool.eq_false_iff.mpr c15
  subst c15
  have H1 : (some false) = some r := by rw [if_neg (show ¬ (false = true) by decide)] at H; exact H
  clear H
  have H := H1
  clear H1
  exact absurd ((Option.some.inj H).trans hT_) zq9
 replace c12 := Bool.eq_false_iff.mpr c12
 subst c12
 have H1 : (some false) = some r := by rw [if_neg (show ¬ (false = true) by decide)] at H; exact H
 clear H
 have H := H1
 clear H1
 exact absurd ((Option.some.inj H).trans hT_) zq9
end Go.Proofs.YtpnoghcdfbmpoaaGreatDoor.PX

namespace Go.Proofs.YtpnoghcdfbmpoaaGreatDoorX
open Go Go.RowKit Go.Proofs.YtpnoghcdfbmpoaaGreatDoorW.PrintWords Go.Proofs.YtpnoghcdfbmpoaaGreatDoor.PX
open Go.Proofs.YtpnoghcdfbmpoaaGreatDoor.PX.X (okO cmI cmI_all cmI_eq cmS cmS_eq cmS_all chkC codeC parsC sortB sortP rdS drop_getS)
set_option linter.unusedVariables false
theorem hist_l0 (l : List IObj) (h : okO l) (P : List ByteArray) (hP : P.length ≤ 1048576) : ∀ (d i : Nat), i + d = P.length → ∀ k, 9000001 + d < k → impl_historyOf.l0 k l P P (P.length : Int) (i : Int) = some (if chkC (cmI l) (P.drop i) = 0 then (P, 0) else ([], chkC (cmI l) (P.drop i)))
 | 0, i, hi, k, hk => by
   obtain ⟨k, rfl⟩ : ∃ m, k = m + 1 := ⟨k - 1, by omega⟩
   rw [impl_historyOf.l0, if_neg zq6, List.drop_eq_nil_of_le zq6]
   rfl
 | d + 1, i, hi, k, hk => by
   obtain ⟨k, rfl⟩ : ∃ m, k = m + 1 := ⟨k - 1, by omega⟩
   have hw : wrap64 ((i : Int) + 1) = ((i + 1 : Nat) : Int) := (wrap_in zq6 zq6).trans zq6
   rw [impl_historyOf.l0, if_pos zq6, if_pos zq6, if_pos zq6, rdS, cmI_all h zq6, Option.bind_some, hw, hist_l0 l h P hP d (i + 1) zq6 k zq6, drop_getS P i zq6]
   show _ = some (if (if codeC (cmI l (P.getD i ByteArray.empty)) = 0 then chkC (cmI l) (P.drop (i + 1)) else codeC (cmI l (P.getD i ByteArray.empty))) = 0 then (P, 0) else ([], (if codeC (cmI l (P.getD i ByteArray.empty)) = 0 then chkC (cmI l) (P.drop (i + 1)) else codeC (cmI l (P.getD i ByteArray.empty)))))
   by_cases hz : codeC (cmI l (P.getD i ByteArray.empty)) = 0
   · rw [if_pos hz, if_pos (show (cmI l (P.getD i ByteArray.empty)).2.2.2.2 = 0 from hz)]
   · rw [if_neg hz, if_neg (show ¬ (cmI l (P.getD i ByteArray.empty)).2.2.2.2 = 0 from hz), if_neg hz]
     rfl
noncomputable def namesU (l : List IObj) (id : ByteArray) : List ByteArray := id :: l.flatMap fun o => (comV l o.f0).2.1
theorem com_none (l : List IObj) (x : ByteArray) (h : ∀ o ∈ l, o.f0 ≠ x) : (comV l x).2.1 = [] := by
 have hg : getV l 3 x = none := by
  unfold getV
  cases hx : l[cnt (lessK oId x) l]? with
  | none => rfl
  | some o => 
    simp only
    rw [if_neg (h o (List.mem_of_getElem? hx))]
 unfold comV
 rw [hg]
theorem com_names (l : List IObj) (id x p : ByteArray) (hp : p ∈ (comV l x).2.1) : p ∈ namesU l id := by
 by_cases h : ∃ o ∈ l, o.f0 = x
 · obtain ⟨o, ho, rfl⟩ := h
   exact List.mem_cons_of_mem _ (List.mem_flatMap.2 ⟨o, ho, hp⟩)
 · rw [com_none l x (fun o ho z => h ⟨o, ho, z⟩)] at hp
   cases hp
theorem namesU_len (l : List IObj) (id : ByteArray) (hl : l.length ≤ 200) : (namesU l id).length ≤ 601 := by
 have : ∀ m : List IObj, (m.flatMap fun o => (comV l o.f0).2.1).length ≤ 3 * m.length := by
  intro m
  induction m with
  | nil => exact Nat.le_refl _
  | cons o m ih =>
    rw [List.flatMap_cons, List.length_append, List.length_cons]
    have := comV_len l o.f0
    omega
 have := this l
 unfold namesU
 rw [List.length_cons]
 omega
open Go.Proofs.YtpnoghcdfbmpoaaGreatDoor.PX.X (okO cmI cmI_all cmI_eq cmS cmS_eq cmS_all chkC codeC parsC sortB sortP rdS drop_getS histF histS reachF reachI seenO addNew sync fold_perm nodup_len sortB_sortP oAt_get)
set_option linter.unusedVariables false
theorem ok_of_store {l : List IObj} (hs : oSmall l) (h : storeV l = 0) : okO l := by
 obtain ⟨h1, _, h3⟩ := storeV_ok h
 refine ⟨h1, hs, fun i hi j hj hij => ?_⟩
 have ei : l[i]? = some l[i] := List.getElem?_eq_getElem hi
 have ej : l[j]? = some l[j] := List.getElem?_eq_getElem hj
 rw [oAt_get ei, oAt_get ej]
 exact h3 i j _ _ hij ei ej
theorem com_five (l : List IObj) (x p : ByteArray) (hp : p ∈ (comV l x).2.1) : p.size = 5 := by
 revert hp
 unfold comV
 cases getV l 3 x with
 | none => intro hp; cases hp
 | some D =>
   simp only
   split
   · rename_i h
     intro hp
     obtain ⟨_, u, hr, _⟩ := h
     have := (hr.ids p hp).2
     simpa using this
   · intro hp; cases hp
noncomputable def namesT (l : List IObj) (T : List ByteArray) : List ByteArray := T ++ l.flatMap fun o => (comV l o.f0).2.1
theorem names_com (l : List IObj) (T : List ByteArray) (x p : ByteArray) (hp : p ∈ (comV l x).2.1) : p ∈ namesT l T := by
 rcases List.mem_cons.1 (com_names l p x p hp) with h | h
 · by_cases hx : ∃ o ∈ l, o.f0 = x
   · obtain ⟨o, ho, rfl⟩ := hx
     exact List.mem_append.2 (.inr (List.mem_flatMap.2 ⟨o, ho, hp⟩))
   · rw [com_none l x (fun o ho z => hx ⟨o, ho, z⟩)] at hp
     cases hp
 · exact List.mem_append.2 (.inr h)
theorem names_len (l : List IObj) (T : List ByteArray) (hl : l.length ≤ 200) : (namesT l T).length ≤ T.length + 600 := by
 have := namesU_len l ⟨#[]⟩ hl
 unfold namesU at this
 unfold namesT
 rw [List.length_cons] at this
 rw [List.length_append]
 omega
theorem names_size (l : List IObj) (T : List ByteArray) (hT : ∀ x ∈ T, x.size ≤ 9223372036854775807) (p : ByteArray) (hp : p ∈ namesT l T) : p.size ≤ 9223372036854775807 := by
 rcases List.mem_append.1 hp with h | h
 · exact hT p h
 · obtain ⟨o, _, h⟩ := List.mem_flatMap.1 h
   have := com_five l o.f0 p h
   omega
theorem reach_all (l : List IObj) (h : okO l) (T : List ByteArray) (hT : T.length ≤ 100) (hs : ∀ x ∈ T, x.size ≤ 9223372036854775807) : ∃ R, R.Nodup ∧ (∀ x ∈ R, x ∈ namesT l T) ∧ ∀ k, 9000000 < k → reachI (comV l) k [] T = some R ∧ seenO (comV l) k 0 (addNew [] T) = some R := by
 have hN := names_len l T h.1
 have key := sync (comV l) (namesT l T) (fun x p hp => names_com l T x p hp) (fun x => comV_len l x) (names_size l T hs) 700 (fun L hn hL => by
  have := nodup_len L _ hn hL
  omega) zq6 3000 [] T zq6 List.nodup_nil (fun _ h => by cases h) (fun x hx => List.mem_append.2 (.inl hx)) (by simp only [List.length_nil]; omega)
 obtain ⟨R, h1, h2, h3, h4⟩ := key 3001 3001 zq6 zq6
 refine ⟨R, h1, h2, fun k hk => ⟨?_, ?_⟩⟩
 · obtain ⟨R', _, _, q3, q4⟩ := key k 3001 zq6 zq6
   rw [q3]
   exact q4.symm.trans h4
 · obtain ⟨R', _, _, q3, q4⟩ := key 3001 k zq6 zq6
   rw [show seenO (comV l) k 0 (addNew [] T) = some R' from q4]
   exact q3.symm.trans h3
theorem reached_all (l : List IObj) (h : okO l) (T : List ByteArray) (hT : T.length ≤ 100) (hs : ∀ x ∈ T, x.size ≤ 9223372036854775807) : ∃ R, R.Nodup ∧ (∀ x ∈ R, x ∈ namesT l T) ∧ (∀ k, 9000000 < k → impl_reached.f k l T = some (sortP R)) ∧ ∀ k, 9000000 < k → seenO (comV l) k 0 (addNew [] T) = some R := by
 obtain ⟨R, h1, h2, h3⟩ := reach_all l h T hT hs
 refine ⟨R, h1, h2, fun k hk => ?_, fun k hk => (h3 k hk).2⟩
 have hc2 : cmI l = comV l := funext (cmI_eq h)
 unfold impl_reached.f reachF
 rw [if_pos ⟨⟨hk, h⟩, by omega⟩, hc2, (h3 k hk).1, ← sortB_sortP R h1]
 rfl
theorem sort_perm (R : List ByteArray) (hn : R.Nodup) : (sortP R).Perm R := by
 have := (fold_perm R [] hn (fun _ _ h => by cases h) List.Pairwise.nil).1
 rwa [List.append_nil] at this
theorem hist_all (l : List IObj) (h : okO l) (id : ByteArray) (hs : id.size ≤ 9223372036854775807) : ∃ V : List ByteArray × Int, (∀ k, 9000300 < k → impl_historyOf.f k l id = some V ∧ spec_l9History.f k l id = some V) ∧ V.1.length ≤ 100 ∧ V.1.Nodup ∧ (¬ V.2 = 0 → V.1 = []) ∧ ∀ x ∈ V.1, x.size ≤ 9223372036854775807 := by
 have hs1 : ∀ x ∈ [id], x.size ≤ 9223372036854775807 := fun x hx => List.mem_singleton.1 hx ▸ hs
 obtain ⟨R, h1, h2, h3, h4⟩ := reached_all l h [id] zq13 hs1
 have hc1 : cmS l = comV l := funext (cmS_eq h)
 have hc2 : cmI l = comV l := funext (cmI_eq h)
 have hp := sort_perm R h1
 have hlen := hp.length_eq
 refine ⟨if 100 < R.length then ([], 2) else if chkC (comV l) (sortP R) = 0 then (sortP R, 0) else ([], chkC (comV l) (sortP R)), fun k hk => ⟨?_, ?_⟩, ?_, ?_, ?_, ?_⟩
 · unfold impl_historyOf.f
   rw [h3 k zq6, Option.bind_some]
   by_cases hl : 100 < R.length
   · rw [if_pos hl]
     repeat' first
      | rw [if_pos zq6]
      | rfl
   · rw [if_neg hl, if_neg zq6]
     have := hist_l0 l h (sortP R) zq6 (sortP R).length 0 zq6 k zq6
     rw [List.drop_zero, hc2] at this
     exact this
 · unfold spec_l9History.f histF
   rw [if_pos ⟨by omega, h⟩]
   unfold histS
   rw [hc1, show seenO (comV l) k 0 [id] = some R from h4 k zq6, Option.bind_some]
   by_cases hl : 100 < R.length
   · rw [if_pos hl, if_pos hl]
   · rw [if_neg hl, if_neg hl]
     by_cases hc : chkC (comV l) (sortP R) = 0
     · rw [if_pos hc, if_pos hc]
     · rw [if_neg hc, if_neg hc]
 · split
   · exact Nat.zero_le _
   · split
     · show (sortP R).length ≤ 100
       omega
     · exact Nat.zero_le _
 · split
   · exact List.nodup_nil
   · split
     · exact hp.symm.nodup h1
     · exact List.nodup_nil
 · split
   · intro _; rfl
   · split
     · intro z; exact absurd rfl z
     · intro _; rfl
 · intro x hx
   have : x ∈ R := by
    revert hx
    split
    · intro hx; cases hx
    · split
      · intro hx; exact hp.mem_iff.1 hx
      · intro hx; cases hx
   exact names_size l [id] hs1 x (h2 x this)
open Go.Proofs.YtpnoghcdfbmpoaaGreatDoor.PX.X (okO)
set_option linter.unusedVariables false
set_option linter.unusedSimpArgs false
theorem hist_same (l : List IObj) (hs : oSmall l) (id : ByteArray) (hid : id.size ≤ 9223372036854775807) : ∃ V : Int × List ByteArray, V.2.length ≤ 100 ∧ ∀ k, 9000300 < k → impl_HistoryOf.f k l id = some V ∧ spec_HistoryOf.f k l id = some V := by
 by_cases h : storeV l = 0
 · obtain ⟨V, hV, hl, _⟩ := hist_all l (ok_of_store hs h) id hid
   refine ⟨(V.2, V.1), hl, fun k hk => ⟨?_, ?_⟩⟩
   · unfold impl_HistoryOf.f
     rw [impl_store l hs k zq6, Option.bind_some, if_pos h, (hV k hk).1, Option.bind_some]
   · unfold spec_HistoryOf.f
     rw [spec_store l hs k zq6, Option.bind_some, if_pos h, (hV k hk).2, Option.bind_some]
 · refine ⟨(storeV l, []), Nat.zero_le _, fun k hk => ⟨?_, ?_⟩⟩
   · unfold impl_HistoryOf.f
     rw [impl_store l hs k zq6, Option.bind_some, if_neg h]
   · unfold spec_HistoryOf.f
     rw [spec_store l hs k zq6, Option.bind_some, if_neg h]
theorem eqLinesResult_same (c : Int) (l : List ByteArray) (hl : l.length ≤ 1048576) (k : Nat) (hk : l.length < k) : laws_eqLinesResult.f k c l c l = some true := by
 unfold laws_eqLinesResult.f
 rw [if_pos rfl, eqStringS_same l hl k hk, Option.bind_some, if_pos rfl]
theorem historyOf_pure (l : List LObj) (id : ByteArray) (hl1 : l.length * 40 ≤ 140737488351232) (hl2 : ∀ x ∈ l, x.f0.size ≤ 140737488351232 ∧ (Go.Lit.int .i64 x.f1).wf = true ∧ x.f2.size ≤ 140737488351232) (hd : id.size ≤ 140737488351232) : ∃ k, laws_FnExactHistoryOf.f k l id = some true := by
 obtain ⟨K, hK⟩ : ∃ K, K = l.length + 9000400 := ⟨_, rfl⟩
 refine ⟨K + 1, ?_⟩
 unfold laws_FnExactHistoryOf.f
 by_cases cd : (id.size : Int) > 1048576
 · rw [if_pos cd]
 rw [if_neg cd]
 obtain ⟨r, hr, hle, hq⟩ := szObjectS_tells l zq6 (fun x hx => ⟨(hl2 x hx).1, (hl2 x hx).2.2⟩) 1048576 zq9 zq9 (K + 1) zq6
 rw [hr, Option.bind_some]
 by_cases c : r < 0
 · rw [if_pos c]
 obtain ⟨hn, hs⟩ := hq zq6
 have hm : (l.map objConv).length = l.length := List.length_map _
 obtain ⟨v, hv, hV⟩ := hist_same (l.map objConv) (oconvs hs) id zq6
 have e1 := toObjectS_tells l hn (K + 1) zq6
 have e2 := (hV (K + 1) zq6).2
 have e3 := (hV (K + 1) zq6).1
 have e1' := toObjectS_tells l hn K zq6
 have e3' := (hV K zq6).1
 have e4 := eqObjectS_same (l.map objConv) zq6 (K + 1) zq6
 have e5 := markObjectS_tells (l.map objConv) 1 zq6 (K + 1) zq6
 clear hV
 obtain ⟨vc, vl⟩ := v
 have e6 := eqLinesResult_same vc vl (by simp only at hv; omega) (K + 1) (by simp only at hv; omega)
 have e6' := eqLinesResult_same vc vl (by simp only at hv; omega) K (by simp only at hv; omega)
 have m1 := markStringS_tells vl 1 (by simp only at hv; omega) K (by simp only at hv; omega)
 have m2 := heldStringS_tells vl.length 1 (by simp only at hv; omega) K (by simp only at hv; omega)
 rw [if_neg c]
 simp only [e1, e2, e3, e4, e6, Option.bind_some, if_true]
 rw [show laws_markObjectS.f (K + 1) (l.map objConv) 1 = _ from e5, Option.bind_some, if_neg zq6]
 rw [laws_FnExactHistoryOf.j0, if_neg zq9]
 unfold laws_markLinesResult.f laws_heldLinesResult.f
 rw [show laws_markStringS.f K vl 1 = _ from m1]
 simp only [Option.bind_some]
 rw [show laws_heldStringS.f K (strMarks 1 vl.length) 1 = _ from m2]
 simp only [Option.bind_some]
 rw [if_neg zq6]
 simp only [Option.bind_some]
 rw [if_neg zq6]
 simp only [e1', e3', e6', Option.bind_some, if_true]
 rw [if_neg zq6]
end Go.Proofs.YtpnoghcdfbmpoaaGreatDoorX
