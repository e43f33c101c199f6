/- Texts of this claim set one behind another by wip/bundle.py: XHistE, PXf44, PXf35, PXf34, XAncLaw, XHistV. -/
import Derived.Test.YtpnoghcdfbmpoaaGreatDoorBLT34
import Derived.Test.YtpnoghcdfbmpoaaGreatDoorBLT51
import Derived.Test.YtpnoghcdfbmpoaaGreatDoorBLT50
import Derived.Test.YtpnoghcdfbmpoaaGreatDoorBLT9
import Derived.Test.YtpnoghcdfbmpoaaGreatDoorBLT15
import Derived.Test.YtpnoghcdfbmpoaaGreatDoorBLT48
import Derived.Test.YtpnoghcdfbmpoaaGreatDoorBLT35
namespace Go.Proofs.YtpnoghcdfbmpoaaGreatDoor.PX.X
open Go Go.RowKit Go.Lib Go.Proofs.YtpnoghcdfbmpoaaGreatDoorW.PrintWords Go.Proofs.YtpnoghcdfbmpoaaGreatDoor.PX Go.Proofs.YtpnoghcdfbmpoaaGreatDoorX
set_option linter.unusedVariables false
def okO (l : List IObj) : Prop := l.length ≤ 200 ∧ (∀ x ∈ l, x.f2.size ≤ 1048576) ∧ ∀ i, i < l.length → ∀ j, j < l.length → i < j → lessB (oId (oAt l i)) (oId (oAt l j)) = true
instance (l : List IObj) : Decidable (okO l) := by unfold okO; infer_instance
theorem oAt_get {l : List IObj} {i : Nat} {x : IObj} (h : l[i]? = some x) : oAt l i = x := by unfold oAt; rw [List.getD_eq_getElem?_getD, h]; rfl
theorem okO_rising {l : List IObj} (h : okO l) : rising oId l := fun i j x y hij hx hy => by
 have := h.2.2 i (List.getElem?_eq_some_iff.1 hx).1 j (List.getElem?_eq_some_iff.1 hy).1 hij
 rwa [oAt_get hx, oAt_get hy] at this
def cmS (l : List IObj) (x : ByteArray) : CmR := (spec_l9Commit.f 9000001 l x).getD (⟨#[]⟩, [], 0, ⟨#[]⟩, 5)
def cmI (l : List IObj) (x : ByteArray) : CmR := (impl_commitOf.f 9000001 l x).getD (⟨#[]⟩, [], 0, ⟨#[]⟩, 5)
theorem cmS_eq {l : List IObj} (h : okO l) (x : ByteArray) : cmS l x = comV l x := by
 unfold cmS
 rw [spec_comV l x h.2.1 (okO_rising h) h.1 9000001 zq7]
 rfl
theorem cmI_eq {l : List IObj} (h : okO l) (x : ByteArray) : cmI l x = comV l x := by
 unfold cmI
 rw [impl_comV l x h.2.1 (okO_rising h) h.1 9000001 zq7]
 rfl
theorem cmS_all {l : List IObj} (h : okO l) {k : Nat} (hk : 9000000 < k) (x : ByteArray) : spec_l9Commit.f k l x = some (cmS l x) := by
 rw [cmS_eq h, spec_comV l x h.2.1 (okO_rising h) h.1 k hk]
theorem cmI_all {l : List IObj} (h : okO l) {k : Nat} (hk : 9000000 < k) (x : ByteArray) : impl_commitOf.f k l x = some (cmI l x) := by
 rw [cmI_eq h, impl_comV l x h.2.1 (okO_rising h) h.1 k zq7]
def histF (k : Nat) (l : List IObj) (id : ByteArray) : Option (List ByteArray × Int) := if 9000000 < k ∧ okO l then histS (cmS l) k id else none
def reachF (k : Nat) (l : List IObj) (T : List ByteArray) : Option (List ByteArray) := if (9000000 < k ∧ okO l) ∧ T.length ≤ 1048576 then (reachI (cmI l) k [] T).map sortB else none
end Go.Proofs.YtpnoghcdfbmpoaaGreatDoor.PX.X

namespace Go.Proofs.YtpnoghcdfbmpoaaGreatDoor.PX
open Go.RowKit Go.Proofs.YtpnoghcdfbmpoaaGreatDoorW.PrintWords Go.Proofs.YtpnoghcdfbmpoaaGreatDoorW.PrintLast Go.Proofs.YtpnoghcdfbmpoaaGreatDoorW.PrintMore
attribute [local go_sem] max2_int min2_int max_two min_two max_three min_three max_four min_four   -- for this text's walks alone
set_option linter.unusedVariables false
set_option linter.unusedSimpArgs false
def impl_reached.f (k : Nat) (l0 : List (S50)) (l1 : List ByteArray) : Option (List ByteArray) := X.reachF k l0 l1
theorem impl_reached.calls (k : Nat) (A0 : Option Addr) (c0 : Nat) (l0 : List (S50)) (A1 : Option Addr) (c1 : Nat) (l1 : List ByteArray) (r : List ByteArray) (w : World) (hr0 : Kd.C k50 w A0 l0.length l0) (hc0 : l0.length ≤ c0) (hr1 : Kd.C Kd.string w A1 l1.length l1) (hc1 : l1.length ≤ c1) (hG : Gt w) (h : impl_reached.f k l0 l1 = some r) :
  Calls Tryz.prog 44 #[.slice A0 l0.length c0, .slice A1 l1.length c1] w fun e w' => ∃ v0_ : Value, e = .returned (v0_) ∧ Kd.R Kd.string 9 w' w.heap.size (fun _ => True) v0_ r ∧ Below w.heap.size w w' := by
 unfold impl_reached.f X.reachF at h
 by_cases hk : (9000000 < k ∧ X.okO l0) ∧ l1.length ≤ 1048576
 ·
  rw [if_pos hk] at h
  obtain ⟨q, hq, rfl⟩ := Option.map_eq_some_iff.1 h
  exact X.reached_calls k A0 c0 l0 A1 c1 l1 (X.cmI l0) w hr0 hc0 hG hr1 hk.2 (X.cmI_all hk.1.2 hk.1.1) q hq
 rw [if_neg hk] at h
 cases h
def impl_historyOf.l0 : Nat → List (S50) → List ByteArray → List ByteArray → Int → Int → Option (List ByteArray × Int)
 | 0, _, _, _, _, _ => none
 | k + 1, x0, x6, x18, x19, x20 => if x20 < x19 then (if 0 ≤ x20 then (if x20 < (x18.length : Int) then ((impl_commitOf.f k x0 (rdOf ByteArray.empty x18 x20)).bind fun bt466 => (if bt466.2.2.2.2 = 0 then (impl_historyOf.l0 k x0 x6 x18 x19 (wrap64 (x20 + 1))) else (some (([] : List ByteArray), bt466.2.2.2.2)))) else (none)) else (none)) else (some (x6, 0))
def impl_historyOf.f (k : Nat) (l0 : List (S50)) (a1 : ByteArray) : Option (List ByteArray × Int) := (impl_reached.f k l0 (([a1] : List ByteArray))).bind fun t462 => (if (t462.length : Int) > 100 then (some (([] : List ByteArray), 2)) else (impl_historyOf.l0 k l0 t462 t462 (t462.length : Int) 0))
set_option maxHeartbeats 8000000 in
set_option maxRecDepth 100000 in
theorem impl_historyOf.calls (k : Nat) (A0 : Option Addr) (c0 : Nat) (l0 : List (S50)) (a1 : ByteArray) (r1 : List ByteArray) (r2 : Int) (w : World) (hr0 : Kd.C k50 w A0 l0.length l0) (hc0 : l0.length ≤ c0) (hG : Gt w) (h : impl_historyOf.f k l0 a1 = some (r1, r2)) :
  Calls Tryz.prog 35 #[.slice A0 l0.length c0, .string a1] w fun e w' => ∃ v0_ : Value, e = .returned (.tuple #[v0_, .int .i64 r2]) ∧ Kd.R Kd.string 9 w' w.heap.size (fun _ => True) v0_ r1 ∧ Below w.heap.size w w' := by
 have HG := zK hG
 clear hG
 have hu60 := Tryz.underlying60
 have HR0 := zK hr0
 have HC0 := zK hc0
 clear hr0 hc0
 have HB := zK (Below.refl w.heap.size w)
 have H : ((impl_reached.f k l0 (([a1] : List ByteArray))).bind fun t462 => (if (t462.length : Int) > 100 then (some (([] : List ByteArray), 2)) else (impl_historyOf.l0 k l0 t462 t462 (t462.length : Int) 0))) = some (r1, r2) := h
 clear h
 obtain ⟨y459, hy459⟩ : ∃ y_ : List ByteArray, y_ = (([a1] : List ByteArray)) := ⟨_, rfl⟩
 replace H : ((impl_reached.f k l0 y459).bind fun t462 => (if (t462.length : Int) > 100 then (some (([] : List ByteArray), 2)) else (impl_historyOf.l0 k l0 t462 t462 (t462.length : Int) 0))) = some (r1, r2) := by first | (rw [hy459]; with_reducible exact H) | (have H2_ := (Option.bind_some _ _).symm.trans H; rw [hy459]; with_reducible exact H2_) | (have H2_ := (Option.bind_some _ _).symm.trans H; with_reducible exact H2_) | with_reducible exact H | (rw [hy459]; exact H) | exact H
 have Ny459 := zK hy459
 clear hy459
 replace H := Option.bind_eq_some_iff.mp H
 obtain ⟨t462, A30, H⟩ := H
 replace H : (if (t462.length : Int) > 100 then (some (([] : List ByteArray), 2)) else (impl_historyOf.l0 k l0 t462 t462 (t462.length : Int) 0)) = some (r1, r2) := H
 have A3 := zK A30
 clear A30
 by_cases c4 : (t462.length : Int) > 100
 ·
  rw [if_pos c4] at H
  have c4b0 : decide (100 < (t462.length : Int)) = true := decide_eq_true c4
  have c4b1 : decide (100 < t462.length) = true := decide_eq_true zq7
  clear c4
  simp only [Option.some.injEq, Prod.mk.injEq] at H
  obtain ⟨rfl, rfl⟩ := H
  go_enter Tryz.func35, Tryz.ntmps35
  go_wp2_with (first | ((with_reducible refine gate_dst (N := 13) rfl ?_); refine Kd.R_lit Kd.string _ 9 ?hg (N := 13) ?hd (xs := ([a1] : List ByteArray)) (inner := [.string a1]) (ok := fun _ => True) (okp := fun _ => True) ?hr ?hp (fun _ hk => hk) trivial (Below.refl _ _) (Nat.le_refl _) zq12 ?_; (case hd => rfl); (case hg => rfl); (case hr => first | (go_simp; done) | (go_simp; rfl)); (case hp => exact (Reps.one (show Kd.M Kd.string _ _ _ a1 [.string a1] from rfl) (Reps.none _ _))); intro v460 w5 ho6 hb hg_ hnew_; clear hg_ hnew_; (first | rw [← Ny459.out] at ho6 | (simp only [Int.reduceToNat] at ho6; rw [← Ny459.out] at ho6)); have n0_ := zK (Kd.R_lower ho6 (below_size zq0)); have n1_ := zK (below_step zq0 hb); clear HB; have HO461 := n0_; have HB := n1_; clear n0_ n1_; clear hb ho6; obtain ⟨Ao7, co7, eo7⟩ := Kd.R_slice HO461.out; subst eo7) | ((with_reducible refine gate_callee (f := 44) rfl ?_); refine goesL_ (some 14) rfl rfl Tryz.func44 zq6 rfl #[.slice A0 l0.length c0, .slice Ao7 y459.length co7] rfl zq1 ?_; (with_reducible refine (impl_reached.calls k _ _ l0 _ _ y459 t462 _ ?side1 ?side2 ?side3 ?side4 (Gt.below HG.out zq0) A3.out).mono ?_); (case side1 => repeat (first | exact (Kd.C_below HR0.out HB.out) | (with_reducible refine Kd.C_alloc ?_ _) | (with_reducible refine Kd.C_drewN ?_ _) | (with_reducible refine Kd.C_drew ?_))); (case side2 => exact HC0.out); (case side3 => repeat (first | exact (Kd.R_reads' HO461.out).2.2 | (with_reducible refine Kd.C_alloc ?_ _) | (with_reducible refine Kd.C_drewN ?_ _) | (with_reducible refine Kd.C_drew ?_))); (case side4 => exact (Kd.R_reads' HO461.out).2.1); rintro e w8 ⟨v463, rfl, ho0, hb⟩; refine ⟨_, rfl, ?_⟩; have n0_ := zK (Kd.R_elder' zq25 (Kd.R_base ho0) hb); have n1_ := zK (Kd.R_lower (Kd.R_new' ho0 (Kd.R_lt zq25)) (below_size zq0)); have n2_ := zK (below_step zq0 hb); clear HO461; clear HB; have HO461 := n0_; have HO464 := n1_; have HB := n2_; clear n0_ n1_ n2_; (try clear hb); (try clear hb2); (try clear hk); (try clear hi); (try clear ho0); obtain ⟨Ao9, co9, eo9⟩ := Kd.R_slice HO464.out; subst eo9))
  go_ret2
  exact ⟨_, zq3, zq11, zq0⟩
 rw [if_neg c4] at H
 have c4b0 : decide (100 < (t462.length : Int)) = false := decide_eq_false c4
 have c4b1 : decide (100 < t462.length) = false := decide_eq_false zq7
 clear c4
 have H' := zK H
 clear H
 go_enter Tryz.func35, Tryz.ntmps35
 go_wp2_with (first | ((with_reducible refine gate_dst (N := 13) rfl ?_); refine Kd.R_lit Kd.string _ 9 ?hg (N := 13) ?hd (xs := ([a1] : List ByteArray)) (inner := [.string a1]) (ok := fun _ => True) (okp := fun _ => True) ?hr ?hp (fun _ hk => hk) trivial (Below.refl _ _) (Nat.le_refl _) zq12 ?_; (case hd => rfl); (case hg => rfl); (case hr => first | (go_simp; done) | (go_simp; rfl)); (case hp => exact (Reps.one (show Kd.M Kd.string _ _ _ a1 [.string a1] from rfl) (Reps.none _ _))); intro v460 w10 ho11 hb hg_ hnew_; clear hg_ hnew_; (first | rw [← Ny459.out] at ho11 | (simp only [Int.reduceToNat] at ho11; rw [← Ny459.out] at ho11)); have n0_ := zK (Kd.R_lower ho11 (below_size zq0)); have n1_ := zK (below_step zq0 hb); clear HB; have HO461 := n0_; have HB := n1_; clear n0_ n1_; clear hb ho11; obtain ⟨Ao12, co12, eo12⟩ := Kd.R_slice HO461.out; subst eo12) | ((with_reducible refine gate_callee (f := 44) rfl ?_); refine goesL_ (some 14) rfl rfl Tryz.func44 zq6 rfl #[.slice A0 l0.length c0, .slice Ao12 y459.length co12] rfl zq1 ?_; (with_reducible refine (impl_reached.calls k _ _ l0 _ _ y459 t462 _ ?side1 ?side2 ?side3 ?side4 (Gt.below HG.out zq0) A3.out).mono ?_); (case side1 => repeat (first | exact (Kd.C_below HR0.out HB.out) | (with_reducible refine Kd.C_alloc ?_ _) | (with_reducible refine Kd.C_drewN ?_ _) | (with_reducible refine Kd.C_drew ?_))); (case side2 => exact HC0.out); (case side3 => repeat (first | exact (Kd.R_reads' HO461.out).2.2 | (with_reducible refine Kd.C_alloc ?_ _) | (with_reducible refine Kd.C_drewN ?_ _) | (with_reducible refine Kd.C_drew ?_))); (case side4 => exact (Kd.R_reads' HO461.out).2.1); rintro e w13 ⟨v463, rfl, ho0, hb⟩; refine ⟨_, rfl, ?_⟩; have n0_ := zK (Kd.R_elder' zq25 (Kd.R_base ho0) hb); have n1_ := zK (Kd.R_lower (Kd.R_new' ho0 (Kd.R_lt zq25)) (below_size zq0)); have n2_ := zK (below_step zq0 hb); clear HO461; clear HB; have HO461 := n0_; have HO464 := n1_; have HB := n2_; clear n0_ n1_ n2_; (try clear hb); (try clear hb2); (try clear hk); (try clear hi); (try clear ho0); obtain ⟨Ao14, co14, eo14⟩ := Kd.R_slice HO464.out; subst eo14))
 go_loopg [20] k (fun kq v20 w' => ∃ (x20_1 : Int), v20 = .int .i64 x20_1 ∧ Aside0 (impl_historyOf.l0 kq l0 t462 t462 (t462.length : Int) x20_1 = some (r1, r2)) ∧ Aside0 (kq ≤ k) ∧ Aside0 (Kd.R Kd.string 9 w' w.heap.size (fun _ => True) (.slice Ao14 t462.length co14) t462) ∧ Aside0 (Kd.R Kd.string 9 w' w.heap.size (fun _ => True) (.slice Ao14 t462.length co14) t462) ∧ Aside0 (Below w.heap.size w w'))
 case atStart => exact ⟨(0), zq5, H', ⟨Nat.le_refl _⟩, ⟨by (with_reducible repeat (first | apply zR | apply zV | apply zW)); exact Kd.R_mono HO464.out (fun _ hk => trivial)⟩, ⟨by (with_reducible repeat (first | apply zR | apply zV | apply zW)); exact Kd.R_mono HO464.out (fun _ hk => trivial)⟩, ⟨by repeat (first | (with_reducible first | exact HB.out | apply zA | apply zN | apply zD) | exact HB.out)⟩⟩
 case round =>
  clear H'
  try clear p2
  try clear c3
  try clear c4
  try clear c4b0
  try clear c4b1
  obtain ⟨x20_1, rfl, HA, HK1, HO_6, HO_18, HB⟩ := hrel
  cases gk with
  | zero => exact absurd HA.out (by simp [impl_historyOf.l0])
  | succ k1 =>
   have H := HA.out
   clear HA
   simp only [impl_historyOf.l0] at H
   by_cases c15 : x20_1 < (t462.length : Int)
   ·
    rw [if_pos c15] at H
    have c15b0 : decide (x20_1 < (t462.length : Int)) = true := decide_eq_true c15
    clear c15
    by_cases c16 : 0 ≤ x20_1
    ·
     rw [if_pos c16] at H
     have c16b0 : decide (0 ≤ x20_1) = true := decide_eq_true c16
     clear c16
     by_cases c17 : x20_1 < (t462.length : Int)
     ·
      rw [if_pos c17] at H
      have c17b0 : decide (x20_1 < (t462.length : Int)) = true := decide_eq_true c17
      clear c17
      replace H := Option.bind_eq_some_iff.mp H
      obtain ⟨⟨t466, t467, t470, t471, t472⟩, A180, H⟩ := H
      replace H : (if t472 = 0 then (impl_historyOf.l0 k1 l0 t462 t462 (t462.length : Int) (wrap64 (x20_1 + 1))) else (some (([] : List ByteArray), t472))) = some (r1, r2) := H
      have A18 := zK A180
      clear A180
      by_cases c19 : t472 = 0
      ·
       rw [if_pos c19] at H
       have c19b0 : (t472 == 0) = true := beq_iff_eq.mpr c19
       have c19b1 : (t472 != 0) = false := bne_eq_false_iff_eq.mpr c19
       clear c19
       have H' := zK H
       clear H
       have p465 : 0 ≤ (x20_1 : Int) := zX zq2
       have q465 : x20_1 < (t462.length : Int) := zX zq2
       obtain ⟨ad465, e465, hx465_0⟩ := Kd.at_string (Kd.R_reads' HO_18.out).2.2 x20_1 p465 q465
       cases e465
       replace p465 := eq_true p465
       replace q465 := eq_true q465
       go_wp2_with (first | ((with_reducible refine gate_callee (f := 42) rfl ?_); refine goesL_ (some 27) rfl rfl Tryz.func42 zq6 rfl #[.slice A0 l0.length c0, .string (rdOf ByteArray.empty t462 x20_1)] rfl zq1 ?_; (with_reducible refine (impl_commitOf.calls k1 _ _ l0 (rdOf ByteArray.empty t462 x20_1) t466 t467 t470 t471 t472 _ ?side1 ?side2 (Gt.below HG.out zq0) A18.out).mono ?_); (case side1 => repeat (first | exact (Kd.C_below HR0.out HB.out) | (with_reducible refine Kd.C_alloc ?_ _) | (with_reducible refine Kd.C_drewN ?_ _) | (with_reducible refine Kd.C_drew ?_))); (case side2 => exact HC0.out); rintro e w20 ⟨v468, rfl, ho0, hb⟩; refine ⟨_, rfl, ?_⟩; have n0_ := zK (Kd.R_elder' zq14 (Kd.R_base ho0) hb); have n1_ := zK (Kd.R_elder' zq16 (Kd.R_base ho0) hb); have n2_ := zK (Kd.R_lower (Kd.R_new' (Kd.R_new' ho0 (Kd.R_lt zq14)) (Kd.R_lt zq16)) (below_size zq0)); have n3_ := zK (below_step zq0 hb); clear HO_6; clear HO_18; clear HB; have HO_6 := n0_; have HO_18 := n1_; have HO469 := n2_; have HB := n3_; clear n0_ n1_ n2_ n3_; (try clear hb); (try clear hb2); (try clear hk); (try clear hi); (try clear ho0)) | ((with_reducible refine gate_dst (N := 9) rfl ?_); refine box_event ?hg (N := 9) ?hd (cs := #[.string (⟨#[]⟩ : ByteArray), .slice none 0 0, .int .i64 0, .string (⟨#[]⟩ : ByteArray)]) (t := 60) ?hr ?_; (case hd => rfl); (case hg => rfl); (case hr => first | (go_simp; done) | (go_simp; rfl)); intro gb473 hg w21 hbox hb; have n0_ := zK (Kd.R_below zq14 hb); have n1_ := zK (Kd.R_below zq16 hb); have n2_ := zK (Kd.R_below (by (with_reducible repeat (first | apply zR | apply zV | apply zW)); exact HO469.out) hb); have n3_ := zK (below_step zq0 hb); have n4_ := zK (hbox); have n5_ := zK ((by rw [hg]; exact (below_size zq0) : w.heap.size ≤ gb473)); have n6_ := zK ((by rw [hg]; exact (below_size zq0) : w.heap.size ≤ gb473)); clear HO_6; clear HO_18; clear HO469; clear HB; have HO_6 := n0_; have HO_18 := n1_; have HO469 := n2_; have HB := n3_; have BK473 := n4_; have GW473 := n5_; have GE473 := n6_; clear n0_ n1_ n2_ n3_ n4_ n5_ n6_; clear hb hbox hg; have hcz22_0 : w21.cell? ⟨gb473, 0, none⟩ = some (.string (⟨#[]⟩ : ByteArray)) := (blk_cell BK473.out 0).trans rfl; have hcz22_1 : w21.cell? ⟨gb473, 1, none⟩ = some (.slice none 0 0) := (blk_cell BK473.out 1).trans rfl; have hcz22_2 : w21.cell? ⟨gb473, 2, none⟩ = some (.int .i64 0) := (blk_cell BK473.out 2).trans rfl; have hcz22_3 : w21.cell? ⟨gb473, 3, none⟩ = some (.string (⟨#[]⟩ : ByteArray)) := (blk_cell BK473.out 3).trans rfl; have hfz22_0 := blk_frozen BK473.out 0; have hfz22_1 := blk_frozen BK473.out 1; have hfz22_2 := blk_frozen BK473.out 2; have hfz22_3 := blk_frozen BK473.out 3; obtain ⟨Ao23, co23, eo23⟩ := Kd.R_slice HO469.out; subst eo23))
       go_roundg k1
       case measure => have := HK1.out; omega
       case rel => exact ⟨(wrap64 (x20_1 + 1)), zq5, H', ⟨by have := HK1.out; omega⟩, ⟨by (with_reducible repeat (first | apply zR | apply zV | apply zW)); exact Kd.R_mono (Kd.R_far (p := ⟨gb473, 3, none⟩) (Kd.R_far (p := ⟨gb473, 2, none⟩) (Kd.R_far (p := ⟨gb473, 1, none⟩) (Kd.R_far (p := ⟨gb473, 0, none⟩) (Kd.R_types HO_6.out BK473.out zq9) (fun _ hk => hk.2) (.string t466)) (fun _ hk => hk.2) (.slice Ao23 t467.length co23)) (fun _ hk => hk.2) (.int .i64 t470)) (fun _ hk => hk.2) (.string t471)) (fun _ hk => trivial)⟩, ⟨by (with_reducible repeat (first | apply zR | apply zV | apply zW)); exact Kd.R_mono (Kd.R_far (p := ⟨gb473, 3, none⟩) (Kd.R_far (p := ⟨gb473, 2, none⟩) (Kd.R_far (p := ⟨gb473, 1, none⟩) (Kd.R_far (p := ⟨gb473, 0, none⟩) (Kd.R_types HO_18.out BK473.out zq9) (fun _ hk => hk.2) (.string t466)) (fun _ hk => hk.2) (.slice Ao23 t467.length co23)) (fun _ hk => hk.2) (.int .i64 t470)) (fun _ hk => hk.2) (.string t471)) (fun _ hk => trivial)⟩, ⟨by repeat (first | (with_reducible first | exact HB.out | apply zA | apply zN | apply zD | refine below_set ?_ GE473.out) | exact HB.out)⟩⟩
      rw [if_neg c19] at H
      have c19b0 : (t472 == 0) = false := beq_eq_false_iff_ne.mpr c19
      have c19b1 : (t472 != 0) = true := bne_iff_ne.mpr c19
      simp only [Option.some.injEq, Prod.mk.injEq] at H
      obtain ⟨rfl, rfl⟩ := H
      have p465 : 0 ≤ (x20_1 : Int) := zX zq2
      have q465 : x20_1 < (t462.length : Int) := zX zq2
      obtain ⟨ad465, e465, hx465_0⟩ := Kd.at_string (Kd.R_reads' HO_18.out).2.2 x20_1 p465 q465
      cases e465
      replace p465 := eq_true p465
      replace q465 := eq_true q465
      go_wp2_with (first | ((with_reducible refine gate_callee (f := 42) rfl ?_); refine goesL_ (some 27) rfl rfl Tryz.func42 zq6 rfl #[.slice A0 l0.length c0, .string (rdOf ByteArray.empty t462 x20_1)] rfl zq1 ?_; (with_reducible refine (impl_commitOf.calls k1 _ _ l0 (rdOf ByteArray.empty t462 x20_1) t466 t467 t470 t471 t472 _ ?side1 ?side2 (Gt.below HG.out zq0) A18.out).mono ?_); (case side1 => repeat (first | exact (Kd.C_below HR0.out HB.out) | (with_reducible refine Kd.C_alloc ?_ _) | (with_reducible refine Kd.C_drewN ?_ _) | (with_reducible refine Kd.C_drew ?_))); (case side2 => exact HC0.out); rintro e w24 ⟨v468, rfl, ho0, hb⟩; refine ⟨_, rfl, ?_⟩; have n0_ := zK (Kd.R_elder' zq14 (Kd.R_base ho0) hb); have n1_ := zK (Kd.R_elder' zq16 (Kd.R_base ho0) hb); have n2_ := zK (Kd.R_lower (Kd.R_new' (Kd.R_new' ho0 (Kd.R_lt zq14)) (Kd.R_lt zq16)) (below_size zq0)); have n3_ := zK (below_step zq0 hb); clear HO_6; clear HO_18; clear HB; have HO_6 := n0_; have HO_18 := n1_; have HO469 := n2_; have HB := n3_; clear n0_ n1_ n2_ n3_; (try clear hb); (try clear hb2); (try clear hk); (try clear hi); (try clear ho0)) | ((with_reducible refine gate_dst (N := 9) rfl ?_); refine box_event ?hg (N := 9) ?hd (cs := #[.string (⟨#[]⟩ : ByteArray), .slice none 0 0, .int .i64 0, .string (⟨#[]⟩ : ByteArray)]) (t := 60) ?hr ?_; (case hd => rfl); (case hg => rfl); (case hr => first | (go_simp; done) | (go_simp; rfl)); intro gb473 hg w25 hbox hb; have n0_ := zK (Kd.R_below zq14 hb); have n1_ := zK (Kd.R_below zq16 hb); have n2_ := zK (Kd.R_below (by (with_reducible repeat (first | apply zR | apply zV | apply zW)); exact HO469.out) hb); have n3_ := zK (below_step zq0 hb); have n4_ := zK (hbox); have n5_ := zK ((by rw [hg]; exact (below_size zq0) : w.heap.size ≤ gb473)); have n6_ := zK ((by rw [hg]; exact (below_size zq0) : w.heap.size ≤ gb473)); clear HO_6; clear HO_18; clear HO469; clear HB; have HO_6 := n0_; have HO_18 := n1_; have HO469 := n2_; have HB := n3_; have BK473 := n4_; have GW473 := n5_; have GE473 := n6_; clear n0_ n1_ n2_ n3_ n4_ n5_ n6_; clear hb hbox hg; have hcz26_0 : w25.cell? ⟨gb473, 0, none⟩ = some (.string (⟨#[]⟩ : ByteArray)) := (blk_cell BK473.out 0).trans rfl; have hcz26_1 : w25.cell? ⟨gb473, 1, none⟩ = some (.slice none 0 0) := (blk_cell BK473.out 1).trans rfl; have hcz26_2 : w25.cell? ⟨gb473, 2, none⟩ = some (.int .i64 0) := (blk_cell BK473.out 2).trans rfl; have hcz26_3 : w25.cell? ⟨gb473, 3, none⟩ = some (.string (⟨#[]⟩ : ByteArray)) := (blk_cell BK473.out 3).trans rfl; have hfz26_0 := blk_frozen BK473.out 0; have hfz26_1 := blk_frozen BK473.out 1; have hfz26_2 := blk_frozen BK473.out 2; have hfz26_3 := blk_frozen BK473.out 3; obtain ⟨Ao27, co27, eo27⟩ := Kd.R_slice HO469.out; subst eo27))
      go_ret2
      exact ⟨_, zq3, zq11, (by repeat (first | (with_reducible first | exact HB.out | apply zA | apply zN | apply zD | refine below_set ?_ GE473.out) | exact HB.out))⟩
     rw [if_neg c17] at H
     exact absurd H zq12
    rw [if_neg c16] at H
    exact absurd H zq12
   rw [if_neg c15] at H
   have c15b0 : decide (x20_1 < (t462.length : Int)) = false := decide_eq_false c15
   clear c15
   simp only [Option.some.injEq, Prod.mk.injEq] at H
   obtain ⟨rfl, rfl⟩ := H
   go_wp2
   go_ret2
   exact ⟨_, zq3, zq14, zq0⟩
def spec_l9History.f (k : Nat) (l0 : List (S50)) (a1 : ByteArray) : Option (List ByteArray × Int) := X.histF k l0 a1
theorem spec_l9History.calls (k : Nat) (A0 : Option Addr) (c0 : Nat) (l0 : List (S50)) (a1 : ByteArray) (r1 : List ByteArray) (r2 : Int) (w : World) (hr0 : Kd.C k50 w A0 l0.length l0) (hc0 : l0.length ≤ c0) (h : spec_l9History.f k l0 a1 = some (r1, r2)) :
  Calls Tryz.prog 34 #[.slice A0 l0.length c0, .string a1] w fun e w' => ∃ v0_ : Value, e = .returned (.tuple #[v0_, .int .i64 r2]) ∧ Kd.R Kd.string 9 w' w.heap.size (fun _ => True) v0_ r1 ∧ Below w.heap.size w w' := by
 unfold spec_l9History.f X.histF at h
 by_cases hk : 9000000 < k ∧ X.okO l0
 ·
  rw [if_pos hk] at h
  exact X.histS_calls k A0 c0 l0 a1 (X.cmS l0) w hr0 hc0 zq7 (X.cmS_all hk.2 hk.1) r1 r2 h
 rw [if_neg hk] at h
 cases h
end Go.Proofs.YtpnoghcdfbmpoaaGreatDoor.PX

namespace Go.Proofs.YtpnoghcdfbmpoaaGreatDoorX
open Go Go.RowKit Go.Proofs.YtpnoghcdfbmpoaaGreatDoorW.PrintWords Go.Proofs.YtpnoghcdfbmpoaaGreatDoor.PX
open Go.Proofs.YtpnoghcdfbmpoaaGreatDoor.PX.X (okO cmI cmI_all cmI_eq cmS cmS_eq cmS_all chkC codeC parsC sortB sortP rdS drop_getS)
set_option linter.unusedVariables false
theorem hist_l0 (l : List IObj) (h : okO l) (P : List ByteArray) (hP : P.length ≤ 1048576) : ∀ (d i : Nat), i + d = P.length → ∀ k, 9000001 + d < k → impl_historyOf.l0 k l P P (P.length : Int) (i : Int) = some (if chkC (cmI l) (P.drop i) = 0 then (P, 0) else ([], chkC (cmI l) (P.drop i)))
 | 0, i, hi, k, hk => by
   obtain ⟨k, rfl⟩ : ∃ m, k = m + 1 := ⟨k - 1, by omega⟩
   rw [impl_historyOf.l0, if_neg zq7, List.drop_eq_nil_of_le zq7]
   rfl
 | d + 1, i, hi, k, hk => by
   obtain ⟨k, rfl⟩ : ∃ m, k = m + 1 := ⟨k - 1, by omega⟩
   have hw : wrap64 ((i : Int) + 1) = ((i + 1 : Nat) : Int) := (wrap_in zq7 zq7).trans zq7
   rw [impl_historyOf.l0, if_pos zq7, if_pos zq7, if_pos zq7, rdS, cmI_all h zq7, Option.bind_some, hw, hist_l0 l h P hP d (i + 1) zq7 k zq7, drop_getS P i zq7]
   show _ = some (if (if codeC (cmI l (P.getD i ByteArray.empty)) = 0 then chkC (cmI l) (P.drop (i + 1)) else codeC (cmI l (P.getD i ByteArray.empty))) = 0 then (P, 0) else ([], (if codeC (cmI l (P.getD i ByteArray.empty)) = 0 then chkC (cmI l) (P.drop (i + 1)) else codeC (cmI l (P.getD i ByteArray.empty)))))
   by_cases hz : codeC (cmI l (P.getD i ByteArray.empty)) = 0
   · rw [if_pos hz, if_pos (show (cmI l (P.getD i ByteArray.empty)).2.2.2.2 = 0 from hz)]
   · rw [if_neg hz, if_neg (show ¬ (cmI l (P.getD i ByteArray.empty)).2.2.2.2 = 0 from hz), if_neg hz]
     rfl
noncomputable def namesU (l : List IObj) (id : ByteArray) : List ByteArray := id :: l.flatMap fun o => (comV l o.f0).2.1
theorem com_none (l : List IObj) (x : ByteArray) (h : ∀ o ∈ l, o.f0 ≠ x) : (comV l x).2.1 = [] := by
 have hg : getV l 3 x = none := by
  unfold getV
  cases hx : l[cnt (lessK oId x) l]? with
  | none => rfl
  | some o => 
    simp only
    rw [if_neg (h o (List.mem_of_getElem? hx))]
 unfold comV
 rw [hg]
theorem com_names (l : List IObj) (id x p : ByteArray) (hp : p ∈ (comV l x).2.1) : p ∈ namesU l id := by
 by_cases h : ∃ o ∈ l, o.f0 = x
 · obtain ⟨o, ho, rfl⟩ := h
   exact List.mem_cons_of_mem _ (List.mem_flatMap.2 ⟨o, ho, hp⟩)
 · rw [com_none l x (fun o ho z => h ⟨o, ho, z⟩)] at hp
   cases hp
theorem namesU_len (l : List IObj) (id : ByteArray) (hl : l.length ≤ 200) : (namesU l id).length ≤ 601 := by
 have : ∀ m : List IObj, (m.flatMap fun o => (comV l o.f0).2.1).length ≤ 3 * m.length := by
  intro m
  induction m with
  | nil => exact Nat.le_refl _
  | cons o m ih =>
    rw [List.flatMap_cons, List.length_append, List.length_cons]
    have := comV_len l o.f0
    omega
 have := this l
 unfold namesU
 rw [List.length_cons]
 omega
open Go.Proofs.YtpnoghcdfbmpoaaGreatDoor.PX.X (okO cmI cmI_all cmI_eq cmS cmS_eq cmS_all chkC codeC parsC sortB sortP rdS drop_getS histF histS reachF reachI seenO addNew sync fold_perm nodup_len sortB_sortP oAt_get)
set_option linter.unusedVariables false
theorem ok_of_store {l : List IObj} (hs : oSmall l) (h : storeV l = 0) : okO l := by
 obtain ⟨h1, _, h3⟩ := storeV_ok h
 refine ⟨h1, hs, fun i hi j hj hij => ?_⟩
 have ei : l[i]? = some l[i] := List.getElem?_eq_getElem hi
 have ej : l[j]? = some l[j] := List.getElem?_eq_getElem hj
 rw [oAt_get ei, oAt_get ej]
 exact h3 i j _ _ hij ei ej
theorem com_five (l : List IObj) (x p : ByteArray) (hp : p ∈ (comV l x).2.1) : p.size = 5 := by
 revert hp
 unfold comV
 cases getV l 3 x with
 | none => intro hp; cases hp
 | some D =>
   simp only
   split
   · rename_i h
     intro hp
     obtain ⟨_, u, hr, _⟩ := h
     have := (hr.ids p hp).2
     simpa using this
   · intro hp; cases hp
noncomputable def namesT (l : List IObj) (T : List ByteArray) : List ByteArray := T ++ l.flatMap fun o => (comV l o.f0).2.1
theorem names_com (l : List IObj) (T : List ByteArray) (x p : ByteArray) (hp : p ∈ (comV l x).2.1) : p ∈ namesT l T := by
 rcases List.mem_cons.1 (com_names l p x p hp) with h | h
 · by_cases hx : ∃ o ∈ l, o.f0 = x
   · obtain ⟨o, ho, rfl⟩ := hx
     exact List.mem_append.2 (.inr (List.mem_flatMap.2 ⟨o, ho, hp⟩))
   · rw [com_none l x (fun o ho z => hx ⟨o, ho, z⟩)] at hp
     cases hp
 · exact List.mem_append.2 (.inr h)
theorem names_len (l : List IObj) (T : List ByteArray) (hl : l.length ≤ 200) : (namesT l T).length ≤ T.length + 600 := by
 have := namesU_len l ⟨#[]⟩ hl
 unfold namesU at this
 unfold namesT
 rw [List.length_cons] at this
 rw [List.length_append]
 omega
theorem names_size (l : List IObj) (T : List ByteArray) (hT : ∀ x ∈ T, x.size ≤ 9223372036854775807) (p : ByteArray) (hp : p ∈ namesT l T) : p.size ≤ 9223372036854775807 := by
 rcases List.mem_append.1 hp with h | h
 · exact hT p h
 · obtain ⟨o, _, h⟩ := List.mem_flatMap.1 h
   have := com_five l o.f0 p h
   omega
theorem reach_all (l : List IObj) (h : okO l) (T : List ByteArray) (hT : T.length ≤ 100) (hs : ∀ x ∈ T, x.size ≤ 9223372036854775807) : ∃ R, R.Nodup ∧ (∀ x ∈ R, x ∈ namesT l T) ∧ ∀ k, 9000000 < k → reachI (comV l) k [] T = some R ∧ seenO (comV l) k 0 (addNew [] T) = some R := by
 have hN := names_len l T h.1
 have key := sync (comV l) (namesT l T) (fun x p hp => names_com l T x p hp) (fun x => comV_len l x) (names_size l T hs) 700 (fun L hn hL => by
  have := nodup_len L _ hn hL
  omega) zq7 3000 [] T zq7 List.nodup_nil (fun _ h => by cases h) (fun x hx => List.mem_append.2 (.inl hx)) (by simp only [List.length_nil]; omega)
 obtain ⟨R, h1, h2, h3, h4⟩ := key 3001 3001 zq7 zq7
 refine ⟨R, h1, h2, fun k hk => ⟨?_, ?_⟩⟩
 · obtain ⟨R', _, _, q3, q4⟩ := key k 3001 zq7 zq7
   rw [q3]
   exact q4.symm.trans h4
 · obtain ⟨R', _, _, q3, q4⟩ := key 3001 k zq7 zq7
   rw [show seenO (comV l) k 0 (addNew [] T) = some R' from q4]
   exact q3.symm.trans h3
theorem reached_all (l : List IObj) (h : okO l) (T : List ByteArray) (hT : T.length ≤ 100) (hs : ∀ x ∈ T, x.size ≤ 9223372036854775807) : ∃ R, R.Nodup ∧ (∀ x ∈ R, x ∈ namesT l T) ∧ (∀ k, 9000000 < k → impl_reached.f k l T = some (sortP R)) ∧ ∀ k, 9000000 < k → seenO (comV l) k 0 (addNew [] T) = some R := by
 obtain ⟨R, h1, h2, h3⟩ := reach_all l h T hT hs
 refine ⟨R, h1, h2, fun k hk => ?_, fun k hk => (h3 k hk).2⟩
 have hc2 : cmI l = comV l := funext (cmI_eq h)
 unfold impl_reached.f reachF
 rw [if_pos ⟨⟨hk, h⟩, by omega⟩, hc2, (h3 k hk).1, ← sortB_sortP R h1]
 rfl
theorem sort_perm (R : List ByteArray) (hn : R.Nodup) : (sortP R).Perm R := by
 have := (fold_perm R [] hn (fun _ _ h => by cases h) List.Pairwise.nil).1
 rwa [List.append_nil] at this
theorem hist_all (l : List IObj) (h : okO l) (id : ByteArray) (hs : id.size ≤ 9223372036854775807) : ∃ V : List ByteArray × Int, (∀ k, 9000300 < k → impl_historyOf.f k l id = some V ∧ spec_l9History.f k l id = some V) ∧ V.1.length ≤ 100 ∧ V.1.Nodup ∧ (¬ V.2 = 0 → V.1 = []) ∧ ∀ x ∈ V.1, x.size ≤ 9223372036854775807 := by
 have hs1 : ∀ x ∈ [id], x.size ≤ 9223372036854775807 := fun x hx => List.mem_singleton.1 hx ▸ hs
 obtain ⟨R, h1, h2, h3, h4⟩ := reached_all l h [id] zq12 hs1
 have hc1 : cmS l = comV l := funext (cmS_eq h)
 have hc2 : cmI l = comV l := funext (cmI_eq h)
 have hp := sort_perm R h1
 have hlen := hp.length_eq
 refine ⟨if 100 < R.length then ([], 2) else if chkC (comV l) (sortP R) = 0 then (sortP R, 0) else ([], chkC (comV l) (sortP R)), fun k hk => ⟨?_, ?_⟩, ?_, ?_, ?_, ?_⟩
 · unfold impl_historyOf.f
   rw [h3 k zq7, Option.bind_some]
   by_cases hl : 100 < R.length
   · rw [if_pos hl]
     repeat' first
      | rw [if_pos zq7]
      | rfl
   · rw [if_neg hl, if_neg zq7]
     have := hist_l0 l h (sortP R) zq7 (sortP R).length 0 zq7 k zq7
     rw [List.drop_zero, hc2] at this
     exact this
 · unfold spec_l9History.f histF
   rw [if_pos ⟨by omega, h⟩]
   unfold histS
   rw [hc1, show seenO (comV l) k 0 [id] = some R from h4 k zq7, Option.bind_some]
   by_cases hl : 100 < R.length
   · rw [if_pos hl, if_pos hl]
   · rw [if_neg hl, if_neg hl]
     by_cases hc : chkC (comV l) (sortP R) = 0
     · rw [if_pos hc, if_pos hc]
     · rw [if_neg hc, if_neg hc]
 · split
   · exact Nat.zero_le _
   · split
     · show (sortP R).length ≤ 100
       omega
     · exact Nat.zero_le _
 · split
   · exact List.nodup_nil
   · split
     · exact hp.symm.nodup h1
     · exact List.nodup_nil
 · split
   · intro _; rfl
   · split
     · intro z; exact absurd rfl z
     · intro _; rfl
 · intro x hx
   have : x ∈ R := by
    revert hx
    split
    · intro hx; cases hx
    · split
      · intro hx; exact hp.mem_iff.1 hx
      · intro hx; cases hx
   exact names_size l [id] hs1 x (h2 x this)
end Go.Proofs.YtpnoghcdfbmpoaaGreatDoorX
