/- Texts of this claim set one behind another by wip/bundle.py: XHistE, PXf34, PXf19, PXf44, PXf35, XGenO, XAncLaw, XHistV, XReachP, XGenP, XGenE, PXf20, PXf5, XGenS, XGenL, XLawGenerationOf. -/
import Derived.Test.YtpnoghcdfbmpoaaGreatDoorBGE33
import Derived.Test.YtpnoghcdfbmpoaaGreatDoorBGE47
import Derived.Test.YtpnoghcdfbmpoaaGreatDoorBGE46
import Derived.Test.YtpnoghcdfbmpoaaGreatDoorBGE14
import Derived.Test.YtpnoghcdfbmpoaaGreatDoorBGE22
import Derived.Test.YtpnoghcdfbmpoaaGreatDoorBGE15
import Derived.Test.YtpnoghcdfbmpoaaGreatDoorBGE8
import Derived.Test.YtpnoghcdfbmpoaaGreatDoorBGE44
import Derived.Test.YtpnoghcdfbmpoaaGreatDoorBGE38
import Derived.IntWalk
import Derived.Test.YtpnoghcdfbmpoaaGreatDoorBGE34
namespace Go.Proofs.YtpnoghcdfbmpoaaGreatDoor.PX.X
open Go Go.RowKit Go.Lib Go.Proofs.YtpnoghcdfbmpoaaGreatDoorW.PrintWords Go.Proofs.YtpnoghcdfbmpoaaGreatDoor.PX Go.Proofs.YtpnoghcdfbmpoaaGreatDoorX
set_option linter.unusedVariables false
def okO (l : List IObj) : Prop := l.length ≤ 200 ∧ (∀ x ∈ l, x.f2.size ≤ 1048576) ∧ ∀ i, i < l.length → ∀ j, j < l.length → i < j → lessB (oId (oAt l i)) (oId (oAt l j)) = true
instance (l : List IObj) : Decidable (okO l) := by unfold okO; infer_instance
theorem oAt_get {l : List IObj} {i : Nat} {x : IObj} (h : l[i]? = some x) : oAt l i = x := by unfold oAt; rw [List.getD_eq_getElem?_getD, h]; rfl
theorem okO_rising {l : List IObj} (h : okO l) : rising oId l := fun i j x y hij hx hy => by
 have := h.2.2 i (List.getElem?_eq_some_iff.1 hx).1 j (List.getElem?_eq_some_iff.1 hy).1 hij
 rwa [oAt_get hx, oAt_get hy] at this
def cmS (l : List IObj) (x : ByteArray) : CmR := (spec_l9Commit.f 9000001 l x).getD (⟨#[]⟩, [], 0, ⟨#[]⟩, 5)
def cmI (l : List IObj) (x : ByteArray) : CmR := (impl_commitOf.f 9000001 l x).getD (⟨#[]⟩, [], 0, ⟨#[]⟩, 5)
theorem cmS_eq {l : List IObj} (h : okO l) (x : ByteArray) : cmS l x = comV l x := by
 unfold cmS
 rw [spec_comV l x h.2.1 (okO_rising h) h.1 9000001 zq6]
 rfl
theorem cmI_eq {l : List IObj} (h : okO l) (x : ByteArray) : cmI l x = comV l x := by
 unfold cmI
 rw [impl_comV l x h.2.1 (okO_rising h) h.1 9000001 zq6]
 rfl
theorem cmS_all {l : List IObj} (h : okO l) {k : Nat} (hk : 9000000 < k) (x : ByteArray) : spec_l9Commit.f k l x = some (cmS l x) := by
 rw [cmS_eq h, spec_comV l x h.2.1 (okO_rising h) h.1 k hk]
theorem cmI_all {l : List IObj} (h : okO l) {k : Nat} (hk : 9000000 < k) (x : ByteArray) : impl_commitOf.f k l x = some (cmI l x) := by
 rw [cmI_eq h, impl_comV l x h.2.1 (okO_rising h) h.1 k zq6]
def histF (k : Nat) (l : List IObj) (id : ByteArray) : Option (List ByteArray × Int) := if 9000000 < k ∧ okO l then histS (cmS l) k id else none
def reachF (k : Nat) (l : List IObj) (T : List ByteArray) : Option (List ByteArray) := if (9000000 < k ∧ okO l) ∧ T.length ≤ 1048576 then (reachI (cmI l) k [] T).map sortB else none
end Go.Proofs.YtpnoghcdfbmpoaaGreatDoor.PX.X

namespace Go.Proofs.YtpnoghcdfbmpoaaGreatDoor.PX
open Go.RowKit Go.Proofs.YtpnoghcdfbmpoaaGreatDoorW.PrintWords Go.Proofs.YtpnoghcdfbmpoaaGreatDoorW.PrintLast Go.Proofs.YtpnoghcdfbmpoaaGreatDoorW.PrintMore
attribute [local go_sem] max2_int min2_int max_two min_two max_three min_three max_four min_four   -- for this text's walks alone
set_option linter.unusedVariables false
set_option linter.unusedSimpArgs false
def spec_l9History.f (k : Nat) (l0 : List (S50)) (a1 : ByteArray) : Option (List ByteArray × Int) := X.histF k l0 a1
theorem spec_l9History.calls (k : Nat) (A0 : Option Addr) (c0 : Nat) (l0 : List (S50)) (a1 : ByteArray) (r1 : List ByteArray) (r2 : Int) (w : World) (hr0 : Kd.C k50 w A0 l0.length l0) (hc0 : l0.length ≤ c0) (h : spec_l9History.f k l0 a1 = some (r1, r2)) :
  Calls Tryz.prog 34 #[.slice A0 l0.length c0, .string a1] w fun e w' => ∃ v0_ : Value, e = .returned (.tuple #[v0_, .int .i64 r2]) ∧ Kd.R Kd.string 9 w' w.heap.size (fun _ => True) v0_ r1 ∧ Below w.heap.size w w' := by
 unfold spec_l9History.f X.histF at h
 by_cases hk : 9000000 < k ∧ X.okO l0
 ·
  rw [if_pos hk] at h
  exact X.histS_calls k A0 c0 l0 a1 (X.cmS l0) w hr0 hc0 zq6 (X.cmS_all hk.2 hk.1) r1 r2 h
 rw [if_neg hk] at h
 cases h
mutual
def spec_GenerationOf.l0 : Nat → List (S50) → ByteArray → List ByteArray → List Int → Int → Option (Int × Int)
 | 0, _, _, _, _, _ => none
 | k + 1, x0, x1, x6, x8, x9 => if x9 ≤ (x6.length : Int) then (spec_GenerationOf.l1 k x0 x1 x6 x8 x9 false 0) else (some (1, 0))
def spec_GenerationOf.l1 : Nat → List (S50) → ByteArray → List ByteArray → List Int → Int → Bool → Int → Option (Int × Int)
 | 0, _, _, _, _, _, _, _ => none
 | k + 1, x0, x1, x6, x8, x9, x10, x11 => if x11 < (x6.length : Int) then (if 0 ≤ x11 then ((spec_l9Commit.f k x0 (rdOf ByteArray.empty x6 x11)).bind fun bt664 => (spec_GenerationOf.l2 k x0 x1 x6 x8 x9 x10 x11 0 0 bt664.1 bt664.2.1 bt664.2.2.1 bt664.2.2.2.1)) else (none)) else (if x10 = true then (spec_GenerationOf.l0 k x0 x1 x6 x8 (wrap64 (x9 + 1))) else (spec_GenerationOf.l4 k x0 x1 x6 x8 x9 0))
def spec_GenerationOf.l2 : Nat → List (S50) → ByteArray → List ByteArray → List Int → Int → Bool → Int → Int → Int → ByteArray → List ByteArray → Int → ByteArray → Option (Int × Int)
 | 0, _, _, _, _, _, _, _, _, _, _, _, _, _ => none
 | k + 1, x0, x1, x6, x8, x9, x10, x11, x14, x15, x672000, x672001, x672002, x672003 => if x15 < (x672001.length : Int) then (spec_GenerationOf.l3 k x0 x1 x6 x8 x9 x10 x11 x14 x15 0 x672000 x672001 x672002 x672003) else (if 0 ≤ x11 then (if x11 < (x8.length : Int) then (if (rd x8 x11) = (wrap64 (x14 + 1)) then (spec_GenerationOf.l1 k x0 x1 x6 x8 x9 x10 (wrap64 (x11 + 1))) else (spec_GenerationOf.l1 k x0 x1 x6 (x8.set (x11 : Int).toNat (wrap64 (x14 + 1))) x9 true (wrap64 (x11 + 1)))) else (none)) else (none))
def spec_GenerationOf.l3 : Nat → List (S50) → ByteArray → List ByteArray → List Int → Int → Bool → Int → Int → Int → Int → ByteArray → List ByteArray → Int → ByteArray → Option (Int × Int)
 | 0, _, _, _, _, _, _, _, _, _, _, _, _, _, _ => none
 | k + 1, x0, x1, x6, x8, x9, x10, x11, x14, x15, x16, x672000, x672001, x672002, x672003 => if x16 < (x6.length : Int) then (if 0 ≤ x16 then (if 0 ≤ x15 then (if x15 < (x672001.length : Int) then (if (rdOf ByteArray.empty x6 x16).toList = (rdOf ByteArray.empty x672001 x15).toList then (if x16 < (x8.length : Int) then ((spec_l1Max.f x14 (rd x8 x16)).bind fun t677 => (spec_GenerationOf.l3 k x0 x1 x6 x8 x9 x10 x11 t677 x15 (wrap64 (x16 + 1)) x672000 x672001 x672002 x672003)) else (none)) else (spec_GenerationOf.l3 k x0 x1 x6 x8 x9 x10 x11 x14 x15 (wrap64 (x16 + 1)) x672000 x672001 x672002 x672003)) else (none)) else (none)) else (none)) else (spec_GenerationOf.l2 k x0 x1 x6 x8 x9 x10 x11 x14 (wrap64 (x15 + 1)) x672000 x672001 x672002 x672003)
def spec_GenerationOf.l4 : Nat → List (S50) → ByteArray → List ByteArray → List Int → Int → Int → Option (Int × Int)
 | 0, _, _, _, _, _, _ => none
 | k + 1, x0, x1, x6, x8, x9, x17 => if x17 < (x6.length : Int) then (if 0 ≤ x17 then (if (rdOf ByteArray.empty x6 x17).toList = x1.toList then (if x17 < (x8.length : Int) then (some (0, rd x8 x17)) else (none)) else (spec_GenerationOf.l4 k x0 x1 x6 x8 x9 (wrap64 (x17 + 1)))) else (none)) else (spec_GenerationOf.l0 k x0 x1 x6 x8 (wrap64 (x9 + 1)))
end
def spec_GenerationOf.f (k : Nat) (l0 : List (S50)) (a1 : ByteArray) : Option (Int × Int) := (spec_StoreFault.f k l0).bind fun t655 => (if t655 = 0 then ((spec_l9History.f k l0 a1).bind fun bt656 => (if bt656.2 = 0 then (if 0 ≤ (bt656.1.length : Int) then (if ((bt656.1.length : Int) : Int).toNat ≤ 35184372088832 then (spec_GenerationOf.l0 k l0 a1 bt656.1 (List.replicate ((bt656.1.length : Int) : Int).toNat 0) 0) else (none)) else (none)) else (some (bt656.2, 0)))) else (some (t655, 0)))
set_option maxHeartbeats 8000000 in
set_option maxRecDepth 100000 in
theorem spec_GenerationOf.calls (k : Nat) (A0 : Option Addr) (c0 : Nat) (l0 : List (S50)) (a1 : ByteArray) (r1 : Int) (r2 : Int) (w : World) (hr0 : Kd.C k50 w A0 l0.length l0) (hc0 : l0.length ≤ c0) (h : spec_GenerationOf.f k l0 a1 = some (r1, r2)) :
  Calls Tryz.prog 19 #[.slice A0 l0.length c0, .string a1] w fun e w' => e = .returned (.agg #[.int .i64 r1, .int .i64 r2]) ∧ Below w.heap.size w w' := by
 have hu38 := Tryz.underlying38
 have hu60 := Tryz.underlying60
 have HR0 := zK hr0
 have HC0 := zK hc0
 clear hr0 hc0
 have HB := zK (Below.refl w.heap.size w)
 have H : ((spec_StoreFault.f k l0).bind fun t655 => (if t655 = 0 then ((spec_l9History.f k l0 a1).bind fun bt656 => (if bt656.2 = 0 then (if 0 ≤ (bt656.1.length : Int) then (if ((bt656.1.length : Int) : Int).toNat ≤ 35184372088832 then (spec_GenerationOf.l0 k l0 a1 bt656.1 (List.replicate ((bt656.1.length : Int) : Int).toNat 0) 0) else (none)) else (none)) else (some (bt656.2, 0)))) else (some (t655, 0)))) = some (r1, r2) := h
 clear h
 replace H := Option.bind_eq_some_iff.mp H
 obtain ⟨t655, A30, H⟩ := H
 replace H : (if t655 = 0 then ((spec_l9History.f k l0 a1).bind fun bt656 => (if bt656.2 = 0 then (if 0 ≤ (bt656.1.length : Int) then (if ((bt656.1.length : Int) : Int).toNat ≤ 35184372088832 then (spec_GenerationOf.l0 k l0 a1 bt656.1 (List.replicate ((bt656.1.length : Int) : Int).toNat 0) 0) else (none)) else (none)) else (some (bt656.2, 0)))) else (some (t655, 0))) = some (r1, r2) := H
 have A3 := zK A30
 clear A30
 by_cases c4 : t655 = 0
 ·
  rw [if_pos c4] at H
  have c4b0 : (t655 == 0) = true := beq_iff_eq.mpr c4
  have c4b1 : (t655 != 0) = false := bne_eq_false_iff_eq.mpr c4
  clear c4
  replace H := Option.bind_eq_some_iff.mp H
  obtain ⟨⟨t656, t657⟩, A50, H⟩ := H
  replace H : (if t657 = 0 then (if 0 ≤ (t656.length : Int) then (if ((t656.length : Int) : Int).toNat ≤ 35184372088832 then (spec_GenerationOf.l0 k l0 a1 t656 (List.replicate ((t656.length : Int) : Int).toNat 0) 0) else (none)) else (none)) else (some (t657, 0))) = some (r1, r2) := H
  have A5 := zK A50
  clear A50
  by_cases c6 : t657 = 0
  ·
   rw [if_pos c6] at H
   have c6b0 : (t657 == 0) = true := beq_iff_eq.mpr c6
   have c6b1 : (t657 != 0) = false := bne_eq_false_iff_eq.mpr c6
   clear c6
   by_cases c7 : 0 ≤ (t656.length : Int)
   ·
    rw [if_pos c7] at H
    have c7b0 := eq_true c7
    have c7b1 : decide (0 ≤ (t656.length : Int)) = true := decide_eq_true c7
    clear c7
    by_cases c8 : ((t656.length : Int) : Int).toNat ≤ 35184372088832
    ·
     rw [if_pos c8] at H
     have c8b0 := eq_true c8
     have c8b1 : decide (((t656.length : Int) : Int).toNat ≤ 35184372088832) = true := decide_eq_true c8
     clear c8
     obtain ⟨y660, hy660⟩ : ∃ y_ : List Int, y_ = (List.replicate ((t656.length : Int) : Int).toNat 0) := ⟨_, rfl⟩
     replace H : (spec_GenerationOf.l0 k l0 a1 t656 y660 0) = some (r1, r2) := by first | (rw [hy660]; with_reducible exact H) | (have H2_ := (Option.bind_some _ _).symm.trans H; rw [hy660]; with_reducible exact H2_) | (have H2_ := (Option.bind_some _ _).symm.trans H; with_reducible exact H2_) | with_reducible exact H | (rw [hy660]; exact H) | exact H
     have Ny660 := zK hy660
     clear hy660
     have H' := zK H
     clear H
     go_enter Tryz.func19, Tryz.ntmps19
     go_wp2_with (first | ((with_reducible refine gate_dst (N := 4) rfl ?_); refine box_event ?hg (N := 4) ?hd (cs := #[.int .i64 0, .int .i64 0]) (t := 38) ?hr ?_; (case hd => rfl); (case hg => rfl); (case hr => first | (go_simp; done) | (go_simp; rfl)); intro gb654 hg w9 hbox hb; have n0_ := zK (below_step zq0 hb); have n1_ := zK (hbox); have n2_ := zK ((by rw [hg]; exact (below_size zq0) : w.heap.size ≤ gb654)); have n3_ := zK ((by rw [hg]; exact (below_size zq0) : w.heap.size ≤ gb654)); clear HB; have HB := n0_; have BK654 := n1_; have GW654 := n2_; have GE654 := n3_; clear n0_ n1_ n2_ n3_; clear hb hbox hg) | (go_at_call 28; (with_reducible refine (spec_StoreFault.calls k _ _ l0 t655 _ ?side1 ?side2 A3.out).mono ?_); (case side1 => repeat (first | exact (Kd.C_below HR0.out HB.out) | (with_reducible refine Kd.C_alloc ?_ _) | (with_reducible refine Kd.C_drewN ?_ _) | (with_reducible refine Kd.C_drew ?_))); (case side2 => exact HC0.out); rintro e w10 ⟨rfl, hb⟩; have n0_ := zK (blk_below (g := gb654) (o := .cells #[.int .i64 0, .int .i64 0] 38 (0, 0)) (by (with_reducible repeat (first | refine zM ?_ _ | refine zP ?_ | refine zQ ?_ _)); exact BK654.out) hb); have n1_ := zK (below_step (by repeat (first | (with_reducible first | exact HB.out | apply zA | apply zN | apply zD | refine below_set ?_ GE654.out) | exact HB.out)) hb); clear BK654; clear HB; have BK654 := n0_; have HB := n1_; clear n0_ n1_; (try clear hb); (try clear hb2); (try clear hk); (try clear hi)) | (go_at_call 34; (with_reducible refine (spec_l9History.calls k _ _ l0 a1 t656 t657 _ ?side1 ?side2 A5.out).mono ?_); (case side1 => repeat (first | exact (Kd.C_below HR0.out HB.out) | (with_reducible refine Kd.C_alloc ?_ _) | (with_reducible refine Kd.C_drewN ?_ _) | (with_reducible refine Kd.C_drew ?_))); (case side2 => exact HC0.out); rintro e w11 ⟨v658, rfl, ho0, hb⟩; have n0_ := zK (Kd.R_lower ho0 (below_size (by repeat (first | (with_reducible first | exact HB.out | apply zA | apply zN | apply zD | refine below_set ?_ GE654.out) | exact HB.out)))); have n1_ := zK (blk_below (g := gb654) (o := .cells #[.int .i64 0, .int .i64 0] 38 (0, 0)) (by (with_reducible repeat (first | refine zM ?_ _ | refine zP ?_ | refine zQ ?_ _)); exact BK654.out) hb); have n2_ := zK (below_step (by repeat (first | (with_reducible first | exact HB.out | apply zA | apply zN | apply zD | refine below_set ?_ GE654.out) | exact HB.out)) hb); clear BK654; clear HB; have HO659 := n0_; have BK654 := n1_; have HB := n2_; clear n0_ n1_ n2_; (try clear hb); (try clear hb2); (try clear hk); (try clear hi); (try clear ho0); obtain ⟨Ao12, co12, eo12⟩ := Kd.R_slice HO659.out; subst eo12) | ((with_reducible refine gate_dst (N := 36) rfl ?_); refine Kd.R_make (Kd.int .i64) _ 2 rfl (N := 36) rfl 58 _ _ rfl (t656.length : Int) rfl rfl Tryz.underlying58 (.int .i64 0) 8 info2 rfl zq10 zq6 0 (ok := fun _ => True) (okp := fun _ => True) rfl (fun _ hk => hk) trivial (zX zq2) (Nat.le_trans (Nat.mul_le_mul_right _ (zX zq2 : (t656.length : Int).toNat ≤ 35184372088832)) zq6) (Below.refl _ _) (Nat.le_refl _) ?_; intro v661 w13 ho14 hb hg_ hnew_; clear hg_ hnew_; (first | rw [← Ny660.out] at ho14 | (simp only [Int.reduceToNat] at ho14; rw [← Ny660.out] at ho14)); have n0_ := zK (Kd.R_below zq30 hb); have n1_ := zK (Kd.R_lower ho14 (below_size (by repeat (first | (with_reducible first | exact HB.out | apply zA | apply zN | apply zD | refine below_set ?_ GE654.out) | exact HB.out)))); have n2_ := zK (blk_below (g := gb654) (o := .cells #[.int .i64 0, .int .i64 0] 38 (0, 0)) (by (with_reducible repeat (first | refine zM ?_ _ | refine zP ?_ | refine zQ ?_ _)); exact BK654.out) hb); have n3_ := zK (below_step (by repeat (first | (with_reducible first | exact HB.out | apply zA | apply zN | apply zD | refine below_set ?_ GE654.out) | exact HB.out)) hb); clear HO659; clear BK654; clear HB; have HO659 := n0_; have HO662 := n1_; have BK654 := n2_; have HB := n3_; clear n0_ n1_ n2_ n3_; clear hb ho14))
     repeat (go_quiet (first | ((with_reducible refine gate_dst (N := 4) rfl ?_); refine box_event ?hg (N := 4) ?hd (cs := #[.int .i64 0, .int .i64 0]) (t := 38) ?hr ?_; (case hd => rfl); (case hg => rfl); (case hr => first | (go_simp; done) | (go_simp; rfl)); intro gb654 hg w9 hbox hb; have n0_ := zK (below_step zq0 hb); have n1_ := zK (hbox); have n2_ := zK ((by rw [hg]; exact (below_size zq0) : w.heap.size ≤ gb654)); have n3_ := zK ((by rw [hg]; exact (below_size zq0) : w.heap.size ≤ gb654)); clear HB; have HB := n0_; have BK654 := n1_; have GW654 := n2_; have GE654 := n3_; clear n0_ n1_ n2_ n3_; clear hb hbox hg) | (go_at_call 28; (with_reducible refine (spec_StoreFault.calls k _ _ l0 t655 _ ?side1 ?side2 A3.out).mono ?_); (case side1 => repeat (first | exact (Kd.C_below HR0.out HB.out) | (with_reducible refine Kd.C_alloc ?_ _) | (with_reducible refine Kd.C_drewN ?_ _) | (with_reducible refine Kd.C_drew ?_))); (case side2 => exact HC0.out); rintro e w10 ⟨rfl, hb⟩; have n0_ := zK (blk_below (g := gb654) (o := .cells #[.int .i64 0, .int .i64 0] 38 (0, 0)) (by (with_reducible repeat (first | refine zM ?_ _ | refine zP ?_ | refine zQ ?_ _)); exact BK654.out) hb); have n1_ := zK (below_step (by repeat (first | (with_reducible first | exact HB.out | apply zA | apply zN | apply zD | refine below_set ?_ GE654.out) | exact HB.out)) hb); clear BK654; clear HB; have BK654 := n0_; have HB := n1_; clear n0_ n1_; (try clear hb); (try clear hb2); (try clear hk); (try clear hi)) | (go_at_call 34; (with_reducible refine (spec_l9History.calls k _ _ l0 a1 t656 t657 _ ?side1 ?side2 A5.out).mono ?_); (case side1 => repeat (first | exact (Kd.C_below HR0.out HB.out) | (with_reducible refine Kd.C_alloc ?_ _) | (with_reducible refine Kd.C_drewN ?_ _) | (with_reducible refine Kd.C_drew ?_))); (case side2 => exact HC0.out); rintro e w11 ⟨v658, rfl, ho0, hb⟩; have n0_ := zK (Kd.R_lower ho0 (below_size (by repeat (first | (with_reducible first | exact HB.out | apply zA | apply zN | apply zD | refine below_set ?_ GE654.out) | exact HB.out)))); have n1_ := zK (blk_below (g := gb654) (o := .cells #[.int .i64 0, .int .i64 0] 38 (0, 0)) (by (with_reducible repeat (first | refine zM ?_ _ | refine zP ?_ | refine zQ ?_ _)); exact BK654.out) hb); have n2_ := zK (below_step (by repeat (first | (with_reducible first | exact HB.out | apply zA | apply zN | apply zD | refine below_set ?_ GE654.out) | exact HB.out)) hb); clear BK654; clear HB; have HO659 := n0_; have BK654 := n1_; have HB := n2_; clear n0_ n1_ n2_; (try clear hb); (try clear hb2); (try clear hk); (try clear hi); (try clear ho0); obtain ⟨Ao12, co12, eo12⟩ := Kd.R_slice HO659.out; subst eo12) | ((with_reducible refine gate_dst (N := 36) rfl ?_); refine Kd.R_make (Kd.int .i64) _ 2 rfl (N := 36) rfl 58 _ _ rfl (t656.length : Int) rfl rfl Tryz.underlying58 (.int .i64 0) 8 info2 rfl zq10 zq6 0 (ok := fun _ => True) (okp := fun _ => True) rfl (fun _ hk => hk) trivial (zX zq2) (Nat.le_trans (Nat.mul_le_mul_right _ (zX zq2 : (t656.length : Int).toNat ≤ 35184372088832)) zq6) (Below.refl _ _) (Nat.le_refl _) ?_; intro v661 w13 ho14 hb hg_ hnew_; clear hg_ hnew_; (first | rw [← Ny660.out] at ho14 | (simp only [Int.reduceToNat] at ho14; rw [← Ny660.out] at ho14)); have n0_ := zK (Kd.R_below zq30 hb); have n1_ := zK (Kd.R_lower ho14 (below_size (by repeat (first | (with_reducible first | exact HB.out | apply zA | apply zN | apply zD | refine below_set ?_ GE654.out) | exact HB.out)))); have n2_ := zK (blk_below (g := gb654) (o := .cells #[.int .i64 0, .int .i64 0] 38 (0, 0)) (by (with_reducible repeat (first | refine zM ?_ _ | refine zP ?_ | refine zQ ?_ _)); exact BK654.out) hb); have n3_ := zK (below_step (by repeat (first | (with_reducible first | exact HB.out | apply zA | apply zN | apply zD | refine below_set ?_ GE654.out) | exact HB.out)) hb); clear HO659; clear BK654; clear HB; have HO659 := n0_; have HO662 := n1_; have BK654 := n2_; have HB := n3_; clear n0_ n1_ n2_ n3_; clear hb ho14)); try go_wp2_with (first | ((with_reducible refine gate_dst (N := 4) rfl ?_); refine box_event ?hg (N := 4) ?hd (cs := #[.int .i64 0, .int .i64 0]) (t := 38) ?hr ?_; (case hd => rfl); (case hg => rfl); (case hr => first | (go_simp; done) | (go_simp; rfl)); intro gb654 hg w9 hbox hb; have n0_ := zK (below_step zq0 hb); have n1_ := zK (hbox); have n2_ := zK ((by rw [hg]; exact (below_size zq0) : w.heap.size ≤ gb654)); have n3_ := zK ((by rw [hg]; exact (below_size zq0) : w.heap.size ≤ gb654)); clear HB; have HB := n0_; have BK654 := n1_; have GW654 := n2_; have GE654 := n3_; clear n0_ n1_ n2_ n3_; clear hb hbox hg) | (go_at_call 28; (with_reducible refine (spec_StoreFault.calls k _ _ l0 t655 _ ?side1 ?side2 A3.out).mono ?_); (case side1 => repeat (first | exact (Kd.C_below HR0.out HB.out) | (with_reducible refine Kd.C_alloc ?_ _) | (with_reducible refine Kd.C_drewN ?_ _) | (with_reducible refine Kd.C_drew ?_))); (case side2 => exact HC0.out); rintro e w10 ⟨rfl, hb⟩; have n0_ := zK (blk_below (g := gb654) (o := .cells #[.int .i64 0, .int .i64 0] 38 (0, 0)) (by (with_reducible repeat (first | refine zM ?_ _ | refine zP ?_ | refine zQ ?_ _)); exact BK654.out) hb); have n1_ := zK (below_step (by repeat (first | (with_reducible first | exact HB.out | apply zA | apply zN | apply zD | refine below_set ?_ GE654.out) | exact HB.out)) hb); clear BK654; clear HB; have BK654 := n0_; have HB := n1_; clear n0_ n1_; (try clear hb); (try clear hb2); (try clear hk); (try clear hi)) | (go_at_call 34; (with_reducible refine (spec_l9History.calls k _ _ l0 a1 t656 t657 _ ?side1 ?side2 A5.out).mono ?_); (case side1 => repeat (first | exact (Kd.C_below HR0.out HB.out) | (with_reducible refine Kd.C_alloc ?_ _) | (with_reducible refine Kd.C_drewN ?_ _) | (with_reducible refine Kd.C_drew ?_))); (case side2 => exact HC0.out); rintro e w11 ⟨v658, rfl, ho0, hb⟩; have n0_ := zK (Kd.R_lower ho0 (below_size (by repeat (first | (with_reducible first | exact HB.out | apply zA | apply zN | apply zD | refine below_set ?_ GE654.out) | exact HB.out)))); have n1_ := zK (blk_below (g := gb654) (o := .cells #[.int .i64 0, .int .i64 0] 38 (0, 0)) (by (with_reducible repeat (first | refine zM ?_ _ | refine zP ?_ | refine zQ ?_ _)); exact BK654.out) hb); have n2_ := zK (below_step (by repeat (first | (with_reducible first | exact HB.out | apply zA | apply zN | apply zD | refine below_set ?_ GE654.out) | exact HB.out)) hb); clear BK654; clear HB; have HO659 := n0_; have BK654 := n1_; have HB := n2_; clear n0_ n1_ n2_; (try clear hb); (try clear hb2); (try clear hk); (try clear hi); (try clear ho0); obtain ⟨Ao12, co12, eo12⟩ := Kd.R_slice HO659.out; subst eo12) | ((with_reducible refine gate_dst (N := 36) rfl ?_); refine Kd.R_make (Kd.int .i64) _ 2 rfl (N := 36) rfl 58 _ _ rfl (t656.length : Int) rfl rfl Tryz.underlying58 (.int .i64 0) 8 info2 rfl zq10 zq6 0 (ok := fun _ => True) (okp := fun _ => True) rfl (fun _ hk => hk) trivial (zX zq2) (Nat.le_trans (Nat.mul_le_mul_right _ (zX zq2 : (t656.length : Int).toNat ≤ 35184372088832)) zq6) (Below.refl _ _) (Nat.le_refl _) ?_; intro v661 w13 ho14 hb hg_ hnew_; clear hg_ hnew_; (first | rw [← Ny660.out] at ho14 | (simp only [Int.reduceToNat] at ho14; rw [← Ny660.out] at ho14)); have n0_ := zK (Kd.R_below zq30 hb); have n1_ := zK (Kd.R_lower ho14 (below_size (by repeat (first | (with_reducible first | exact HB.out | apply zA | apply zN | apply zD | refine below_set ?_ GE654.out) | exact HB.out)))); have n2_ := zK (blk_below (g := gb654) (o := .cells #[.int .i64 0, .int .i64 0] 38 (0, 0)) (by (with_reducible repeat (first | refine zM ?_ _ | refine zP ?_ | refine zQ ?_ _)); exact BK654.out) hb); have n3_ := zK (below_step (by repeat (first | (with_reducible first | exact HB.out | apply zA | apply zN | apply zD | refine below_set ?_ GE654.out) | exact HB.out)) hb); clear HO659; clear BK654; clear HB; have HO659 := n0_; have HO662 := n1_; have BK654 := n2_; have HB := n3_; clear n0_ n1_ n2_ n3_; clear hb ho14)))
     go_loopg [9] k (fun kq v9 w' => ∃ (x8_1 : List Int) (x9_1 : Int) (x655000_1 : Int) (x655001_1 : Int), v9 = .int .i64 x9_1 ∧ Aside0 (spec_GenerationOf.l0 kq l0 a1 t656 x8_1 x9_1 = some (r1, r2)) ∧ Aside0 (kq ≤ k) ∧ Aside0 (Kd.R Kd.string 9 w' w.heap.size (fun _ => True) (.slice Ao12 t656.length co12) t656) ∧ Aside0 (Kd.R (Kd.int .i64) 2 w' w.heap.size (fun _ => True) v661 x8_1) ∧ Aside0 (w'.heap[gb654]? = some (.cells #[.int .i64 x655000_1, .int .i64 x655001_1] 38 (0, 0))) ∧ Aside0 (Below w.heap.size w w'))
     case atStart => exact ⟨(y660), (0), (0), (0), zq4, H', ⟨Nat.le_refl _⟩, ⟨by (with_reducible repeat (first | apply zR | apply zV | apply zW)); exact HO659.out⟩, ⟨by (with_reducible repeat (first | apply zR | apply zV | apply zW)); exact HO662.out⟩, ⟨by (with_reducible repeat (first | refine zM ?_ _ | refine zP ?_ | refine zQ ?_ _)); exact BK654.out⟩, ⟨by repeat (first | (with_reducible first | exact HB.out | apply zA | apply zN | apply zD | refine below_set ?_ GE654.out) | exact HB.out)⟩⟩
     case round =>
      clear H'
      try clear c1
      try clear p2
      try clear c4
      try clear c4b0
      try clear c4b1
      try clear c6
      try clear c6b0
      try clear c6b1
      try clear c7
      try clear c7b0
      try clear c7b1
      try clear c8
      try clear c8b0
      try clear c8b1
      obtain ⟨x8_1, x9_1, x655000_1, x655001_1, rfl, HA, HK1, HO_6, HO_8, BK654, HB⟩ := hrel
      cases gk with
      | zero => exact absurd HA.out (by simp [spec_GenerationOf.l0])
      | succ k1 =>
       have H := HA.out
       clear HA
       simp only [spec_GenerationOf.l0] at H
       by_cases c15 : x9_1 ≤ (t656.length : Int)
       ·
        rw [if_pos c15] at H
        have c15b0 : decide (x9_1 ≤ (t656.length : Int)) = true := decide_eq_true c15
        clear c15
        have H' := zK H
        clear H
        go_wp2
        repeat (go_quiet (fail); try go_wp2)
        go_loopg [10, 11] k1 (fun kq v10 v11 w' => ∃ (x8_2 : List Int) (x10_2 : Bool) (x11_2 : Int), v10 = .bool x10_2 ∧ v11 = .int .i64 x11_2 ∧ Aside0 (spec_GenerationOf.l1 kq l0 a1 t656 x8_2 x9_1 x10_2 x11_2 = some (r1, r2)) ∧ Aside0 (kq ≤ k1) ∧ Aside0 (Kd.R Kd.string 9 w' w.heap.size (fun _ => True) (.slice Ao12 t656.length co12) t656) ∧ Aside0 (Kd.R (Kd.int .i64) 2 w' w.heap.size (fun _ => True) v661 x8_2) ∧ Aside0 (w'.heap[gb654]? = some (.cells #[.int .i64 x655000_1, .int .i64 x655001_1] 38 (0, 0))) ∧ Aside0 (Below w.heap.size w w'))
        case atStart => exact ⟨(x8_1), (false), (0), zq4, zq4, H', ⟨Nat.le_refl _⟩, ⟨by (with_reducible repeat (first | apply zR | apply zV | apply zW)); exact HO_6.out⟩, ⟨by (with_reducible repeat (first | apply zR | apply zV | apply zW)); exact HO_8.out⟩, ⟨by (with_reducible repeat (first | refine zM ?_ _ | refine zP ?_ | refine zQ ?_ _)); exact BK654.out⟩, ⟨by repeat (first | (with_reducible first | exact HB.out | apply zA | apply zN | apply zD | refine below_set ?_ GE654.out) | exact HB.out)⟩⟩
        case round =>
         clear H'
         try clear c1
         try clear p2
         try clear c4
         try clear c4b0
         try clear c4b1
         try clear c6
         try clear c6b0
         try clear c6b1
         try clear c7
         try clear c7b0
         try clear c7b1
         try clear c8
         try clear c8b0
         try clear c8b1
         try clear c15
         try clear c15b0
         try clear p2
         obtain ⟨x8_2, x10_2, x11_2, rfl, rfl, HA, HK2, HO_6, HO_8, BK654, HB⟩ := hrel
         cases gk with
         | zero => exact absurd HA.out (by simp [spec_GenerationOf.l1])
         | succ k2 =>
          have H := HA.out
          clear HA
          simp only [spec_GenerationOf.l1] at H
          by_cases c16 : x11_2 < (t656.length : Int)
          ·
           rw [if_pos c16] at H
           have c16b0 : decide (x11_2 < (t656.length : Int)) = true := decide_eq_true c16
           clear c16
           by_cases c17 : 0 ≤ x11_2
           ·
            rw [if_pos c17] at H
            have c17b0 : decide (0 ≤ x11_2) = true := decide_eq_true c17
            clear c17
            replace H := Option.bind_eq_some_iff.mp H
            obtain ⟨⟨t664, t665, t668, t669, t670⟩, A180, H⟩ := H
            replace H : (spec_GenerationOf.l2 k2 l0 a1 t656 x8_2 x9_1 x10_2 x11_2 0 0 t664 t665 t668 t669) = some (r1, r2) := H
            have A18 := zK A180
            clear A180
            have H' := zK H
            clear H
            have p663 : 0 ≤ (x11_2 : Int) := zX zq2
            have q663 : x11_2 < (t656.length : Int) := zX zq2
            obtain ⟨ad663, e663, hx663_0⟩ := Kd.at_string (Kd.R_reads' HO_6.out).2.2 x11_2 p663 q663
            cases e663
            replace p663 := eq_true p663
            replace q663 := eq_true q663
            go_wp2_with (first | (go_at_call 40; (with_reducible refine (spec_l9Commit.calls k2 _ _ l0 (rdOf ByteArray.empty t656 x11_2) t664 t665 t668 t669 t670 _ ?side1 ?side2 A18.out).mono ?_); (case side1 => repeat (first | exact (Kd.C_below HR0.out HB.out) | (with_reducible refine Kd.C_alloc ?_ _) | (with_reducible refine Kd.C_drewN ?_ _) | (with_reducible refine Kd.C_drew ?_))); (case side2 => exact HC0.out); rintro e w19 ⟨v666, rfl, ho0, hb⟩; have n0_ := zK (Kd.R_elder' zq9 (Kd.R_base ho0) hb); have n1_ := zK (Kd.R_below zq16 hb); have n2_ := zK (Kd.R_lower (Kd.R_new' ho0 (Kd.R_lt zq9)) (below_size (by repeat (first | (with_reducible first | exact HB.out | apply zA | apply zN | apply zD | refine below_set ?_ GE654.out) | exact HB.out)))); have n3_ := zK (blk_below (g := gb654) (o := .cells #[.int .i64 x655000_1, .int .i64 x655001_1] 38 (0, 0)) (by (with_reducible repeat (first | refine zM ?_ _ | refine zP ?_ | refine zQ ?_ _)); exact BK654.out) hb); have n4_ := zK (below_step (by repeat (first | (with_reducible first | exact HB.out | apply zA | apply zN | apply zD | refine below_set ?_ GE654.out) | exact HB.out)) hb); clear HO_6; clear HO_8; clear BK654; clear HB; have HO_6 := n0_; have HO_8 := n1_; have HO667 := n2_; have BK654 := n3_; have HB := n4_; clear n0_ n1_ n2_ n3_ n4_; (try clear hb); (try clear hb2); (try clear hk); (try clear hi); (try clear ho0)) | ((with_reducible refine gate_dst (N := 12) rfl ?_); refine box_event ?hg (N := 12) ?hd (cs := #[.string (⟨#[]⟩ : ByteArray), .slice none 0 0, .int .i64 0, .string (⟨#[]⟩ : ByteArray)]) (t := 60) ?hr ?_; (case hd => rfl); (case hg => rfl); (case hr => first | (go_simp; done) | (go_simp; rfl)); intro gb671 hg w20 hbox hb; have n0_ := zK (Kd.R_below zq9 hb); have n1_ := zK (Kd.R_below zq16 hb); have n2_ := zK (Kd.R_below zq29 hb); have n3_ := zK (blk_below (g := gb654) (o := .cells #[.int .i64 x655000_1, .int .i64 x655001_1] 38 (0, 0)) (by (with_reducible repeat (first | refine zM ?_ _ | refine zP ?_ | refine zQ ?_ _)); exact BK654.out) hb); have n4_ := zK (below_step (by repeat (first | (with_reducible first | exact HB.out | apply zA | apply zN | apply zD | refine below_set ?_ GE654.out) | exact HB.out)) hb); have n5_ := zK (hbox); have n6_ := zK ((by rw [hg]; exact (below_size (by repeat (first | (with_reducible first | exact HB.out | apply zA | apply zN | apply zD | refine below_set ?_ GE654.out) | exact HB.out))) : w.heap.size ≤ gb671)); have n7_ := zK ((by rw [hg]; exact (below_size (by repeat (first | (with_reducible first | exact HB.out | apply zA | apply zN | apply zD | refine below_set ?_ GE654.out) | exact HB.out))) : w.heap.size ≤ gb671)); have n8_ := zK ((by rw [hg]; exact Nat.ne_of_lt (blk_lt (g := gb654) (o := .cells #[.int .i64 x655000_1, .int .i64 x655001_1] 38 (0, 0)) (by (with_reducible repeat (first | refine zM ?_ _ | refine zP ?_ | refine zQ ?_ _)); exact BK654.out)) : gb654 ≠ gb671)); have n9_ := zK ((by rw [hg]; exact Nat.ne_of_gt (blk_lt (g := gb654) (o := .cells #[.int .i64 x655000_1, .int .i64 x655001_1] 38 (0, 0)) (by (with_reducible repeat (first | refine zM ?_ _ | refine zP ?_ | refine zQ ?_ _)); exact BK654.out)) : gb671 ≠ gb654)); clear HO_6; clear HO_8; clear HO667; clear BK654; clear HB; have HO_6 := n0_; have HO_8 := n1_; have HO667 := n2_; have BK654 := n3_; have HB := n4_; have BK671 := n5_; have GW671 := n6_; have GE671 := n7_; have NB654_671 := n8_; have NB671_654 := n9_; clear n0_ n1_ n2_ n3_ n4_ n5_ n6_ n7_ n8_ n9_; clear hb hbox hg; have hnb21 := NB671_654.out; have hnc21 := NB654_671.out; have hcz22_0 : w20.cell? ⟨gb671, 0, none⟩ = some (.string (⟨#[]⟩ : ByteArray)) := (blk_cell BK671.out 0).trans rfl; have hcz22_1 : w20.cell? ⟨gb671, 1, none⟩ = some (.slice none 0 0) := (blk_cell BK671.out 1).trans rfl; have hcz22_2 : w20.cell? ⟨gb671, 2, none⟩ = some (.int .i64 0) := (blk_cell BK671.out 2).trans rfl; have hcz22_3 : w20.cell? ⟨gb671, 3, none⟩ = some (.string (⟨#[]⟩ : ByteArray)) := (blk_cell BK671.out 3).trans rfl; have hfz22_0 := blk_frozen BK671.out 0; have hfz22_1 := blk_frozen BK671.out 1; have hfz22_2 := blk_frozen BK671.out 2; have hfz22_3 := blk_frozen BK671.out 3; obtain ⟨Ao23, co23, eo23⟩ := Kd.R_slice HO667.out; subst eo23))
            repeat (go_quiet (first | (go_at_call 40; (with_reducible refine (spec_l9Commit.calls k2 _ _ l0 (rdOf ByteArray.empty t656 x11_2) t664 t665 t668 t669 t670 _ ?side1 ?side2 A18.out).mono ?_); (case side1 => repeat (first | exact (Kd.C_below HR0.out HB.out) | (with_reducible refine Kd.C_alloc ?_ _) | (with_reducible refine Kd.C_drewN ?_ _) | (with_reducible refine Kd.C_drew ?_))); (case side2 => exact HC0.out); rintro e w19 ⟨v666, rfl, ho0, hb⟩; have n0_ := zK (Kd.R_elder' zq9 (Kd.R_base ho0) hb); have n1_ := zK (Kd.R_below zq16 hb); have n2_ := zK (Kd.R_lower (Kd.R_new' ho0 (Kd.R_lt zq9)) (below_size (by repeat (first | (with_reducible first | exact HB.out | apply zA | apply zN | apply zD | refine below_set ?_ GE654.out) | exact HB.out)))); have n3_ := zK (blk_below (g := gb654) (o := .cells #[.int .i64 x655000_1, .int .i64 x655001_1] 38 (0, 0)) (by (with_reducible repeat (first | refine zM ?_ _ | refine zP ?_ | refine zQ ?_ _)); exact BK654.out) hb); have n4_ := zK (below_step (by repeat (first | (with_reducible first | exact HB.out | apply zA | apply zN | apply zD | refine below_set ?_ GE654.out) | exact HB.out)) hb); clear HO_6; clear HO_8; clear BK654; clear HB; have HO_6 := n0_; have HO_8 := n1_; have HO667 := n2_; have BK654 := n3_; have HB := n4_; clear n0_ n1_ n2_ n3_ n4_; (try clear hb); (try clear hb2); (try clear hk); (try clear hi); (try clear ho0)) | ((with_reducible refine gate_dst (N := 12) rfl ?_); refine box_event ?hg (N := 12) ?hd (cs := #[.string (⟨#[]⟩ : ByteArray), .slice none 0 0, .int .i64 0, .string (⟨#[]⟩ : ByteArray)]) (t := 60) ?hr ?_; (case hd => rfl); (case hg => rfl); (case hr => first | (go_simp; done) | (go_simp; rfl)); intro gb671 hg w20 hbox hb; have n0_ := zK (Kd.R_below zq9 hb); have n1_ := zK (Kd.R_below zq16 hb); have n2_ := zK (Kd.R_below zq29 hb); have n3_ := zK (blk_below (g := gb654) (o := .cells #[.int .i64 x655000_1, .int .i64 x655001_1] 38 (0, 0)) (by (with_reducible repeat (first | refine zM ?_ _ | refine zP ?_ | refine zQ ?_ _)); exact BK654.out) hb); have n4_ := zK (below_step (by repeat (first | (with_reducible first | exact HB.out | apply zA | apply zN | apply zD | refine below_set ?_ GE654.out) | exact HB.out)) hb); have n5_ := zK (hbox); have n6_ := zK ((by rw [hg]; exact (below_size (by repeat (first | (with_reducible first | exact HB.out | apply zA | apply zN | apply zD | refine below_set ?_ GE654.out) | exact HB.out))) : w.heap.size ≤ gb671)); have n7_ := zK ((by rw [hg]; exact (below_size (by repeat (first | (with_reducible first | exact HB.out | apply zA | apply zN | apply zD | refine below_set ?_ GE654.out) | exact HB.out))) : w.heap.size ≤ gb671)); have n8_ := zK ((by rw [hg]; exact Nat.ne_of_lt (blk_lt (g := gb654) (o := .cells #[.int .i64 x655000_1, .int .i64 x655001_1] 38 (0, 0)) (by (with_reducible repeat (first | refine zM ?_ _ | refine zP ?_ | refine zQ ?_ _)); exact BK654.out)) : gb654 ≠ gb671)); have n9_ := zK ((by rw [hg]; exact Nat.ne_of_gt (blk_lt (g := gb654) (o := .cells #[.int .i64 x655000_1, .int .i64 x655001_1] 38 (0, 0)) (by (with_reducible repeat (first | refine zM ?_ _ | refine zP ?_ | refine zQ ?_ _)); exact BK654.out)) : gb671 ≠ gb654)); clear HO_6; clear HO_8; clear HO667; clear BK654; clear HB; have HO_6 := n0_; have HO_8 := n1_; have HO667 := n2_; have BK654 := n3_; have HB := n4_; have BK671 := n5_; have GW671 := n6_; have GE671 := n7_; have NB654_671 := n8_; have NB671_654 := n9_; clear n0_ n1_ n2_ n3_ n4_ n5_ n6_ n7_ n8_ n9_; clear hb hbox hg; have hnb21 := NB671_654.out; have hnc21 := NB654_671.out; have hcz22_0 : w20.cell? ⟨gb671, 0, none⟩ = some (.string (⟨#[]⟩ : ByteArray)) := (blk_cell BK671.out 0).trans rfl; have hcz22_1 : w20.cell? ⟨gb671, 1, none⟩ = some (.slice none 0 0) := (blk_cell BK671.out 1).trans rfl; have hcz22_2 : w20.cell? ⟨gb671, 2, none⟩ = some (.int .i64 0) := (blk_cell BK671.out 2).trans rfl; have hcz22_3 : w20.cell? ⟨gb671, 3, none⟩ = some (.string (⟨#[]⟩ : ByteArray)) := (blk_cell BK671.out 3).trans rfl; have hfz22_0 := blk_frozen BK671.out 0; have hfz22_1 := blk_frozen BK671.out 1; have hfz22_2 := blk_frozen BK671.out 2; have hfz22_3 := blk_frozen BK671.out 3; obtain ⟨Ao23, co23, eo23⟩ := Kd.R_slice HO667.out; subst eo23)); try go_wp2_with (first | (go_at_call 40; (with_reducible refine (spec_l9Commit.calls k2 _ _ l0 (rdOf ByteArray.empty t656 x11_2) t664 t665 t668 t669 t670 _ ?side1 ?side2 A18.out).mono ?_); (case side1 => repeat (first | exact (Kd.C_below HR0.out HB.out) | (with_reducible refine Kd.C_alloc ?_ _) | (with_reducible refine Kd.C_drewN ?_ _) | (with_reducible refine Kd.C_drew ?_))); (case side2 => exact HC0.out); rintro e w19 ⟨v666, rfl, ho0, hb⟩; have n0_ := zK (Kd.R_elder' zq9 (Kd.R_base ho0) hb); have n1_ := zK (Kd.R_below zq16 hb); have n2_ := zK (Kd.R_lower (Kd.R_new' ho0 (Kd.R_lt zq9)) (below_size (by repeat (first | (with_reducible first | exact HB.out | apply zA | apply zN | apply zD | refine below_set ?_ GE654.out) | exact HB.out)))); have n3_ := zK (blk_below (g := gb654) (o := .cells #[.int .i64 x655000_1, .int .i64 x655001_1] 38 (0, 0)) (by (with_reducible repeat (first | refine zM ?_ _ | refine zP ?_ | refine zQ ?_ _)); exact BK654.out) hb); have n4_ := zK (below_step (by repeat (first | (with_reducible first | exact HB.out | apply zA | apply zN | apply zD | refine below_set ?_ GE654.out) | exact HB.out)) hb); clear HO_6; clear HO_8; clear BK654; clear HB; have HO_6 := n0_; have HO_8 := n1_; have HO667 := n2_; have BK654 := n3_; have HB := n4_; clear n0_ n1_ n2_ n3_ n4_; (try clear hb); (try clear hb2); (try clear hk); (try clear hi); (try clear ho0)) | ((with_reducible refine gate_dst (N := 12) rfl ?_); refine box_event ?hg (N := 12) ?hd (cs := #[.string (⟨#[]⟩ : ByteArray), .slice none 0 0, .int .i64 0, .string (⟨#[]⟩ : ByteArray)]) (t := 60) ?hr ?_; (case hd => rfl); (case hg => rfl); (case hr => first | (go_simp; done) | (go_simp; rfl)); intro gb671 hg w20 hbox hb; have n0_ := zK (Kd.R_below zq9 hb); have n1_ := zK (Kd.R_below zq16 hb); have n2_ := zK (Kd.R_below zq29 hb); have n3_ := zK (blk_below (g := gb654) (o := .cells #[.int .i64 x655000_1, .int .i64 x655001_1] 38 (0, 0)) (by (with_reducible repeat (first | refine zM ?_ _ | refine zP ?_ | refine zQ ?_ _)); exact BK654.out) hb); have n4_ := zK (below_step (by repeat (first | (with_reducible first | exact HB.out | apply zA | apply zN | apply zD | refine below_set ?_ GE654.out) | exact HB.out)) hb); have n5_ := zK (hbox); have n6_ := zK ((by rw [hg]; exact (below_size (by repeat (first | (with_reducible first | exact HB.out | apply zA | apply zN | apply zD | refine below_set ?_ GE654.out) | exact HB.out))) : w.heap.size ≤ gb671)); have n7_ := zK ((by rw [hg]; exact (below_size (by repeat (first | (with_reducible first | exact HB.out | apply zA | apply zN | apply zD | refine below_set ?_ GE654.out) | exact HB.out))) : w.heap.size ≤ gb671)); have n8_ := zK ((by rw [hg]; exact Nat.ne_of_lt (blk_lt (g := gb654) (o := .cells #[.int .i64 x655000_1, .int .i64 x655001_1] 38 (0, 0)) (by (with_reducible repeat (first | refine zM ?_ _ | refine zP ?_ | refine zQ ?_ _)); exact BK654.out)) : gb654 ≠ gb671)); have n9_ := zK ((by rw [hg]; exact Nat.ne_of_gt (blk_lt (g := gb654) (o := .cells #[.int .i64 x655000_1, .int .i64 x655001_1] 38 (0, 0)) (by (with_reducible repeat (first | refine zM ?_ _ | refine zP ?_ | refine zQ ?_ _)); exact BK654.out)) : gb671 ≠ gb654)); clear HO_6; clear HO_8; clear HO667; clear BK654; clear HB; have HO_6 := n0_; have HO_8 := n1_; have HO667 := n2_; have BK654 := n3_; have HB := n4_; have BK671 := n5_; have GW671 := n6_; have GE671 := n7_; have NB654_671 := n8_; have NB671_654 := n9_; clear n0_ n1_ n2_ n3_ n4_ n5_ n6_ n7_ n8_ n9_; clear hb hbox hg; have hnb21 := NB671_654.out; have hnc21 := NB654_671.out; have hcz22_0 : w20.cell? ⟨gb671, 0, none⟩ = some (.string (⟨#[]⟩ : ByteArray)) := (blk_cell BK671.out 0).trans rfl; have hcz22_1 : w20.cell? ⟨gb671, 1, none⟩ = some (.slice none 0 0) := (blk_cell BK671.out 1).trans rfl; have hcz22_2 : w20.cell? ⟨gb671, 2, none⟩ = some (.int .i64 0) := (blk_cell BK671.out 2).trans rfl; have hcz22_3 : w20.cell? ⟨gb671, 3, none⟩ = some (.string (⟨#[]⟩ : ByteArray)) := (blk_cell BK671.out 3).trans rfl; have hfz22_0 := blk_frozen BK671.out 0; have hfz22_1 := blk_frozen BK671.out 1; have hfz22_2 := blk_frozen BK671.out 2; have hfz22_3 := blk_frozen BK671.out 3; obtain ⟨Ao23, co23, eo23⟩ := Kd.R_slice HO667.out; subst eo23)))
            go_loopg [14, 15] k2 (fun kq v14 v15 w' => ∃ (x14_3 : Int) (x15_3 : Int), v14 = .int .i64 x14_3 ∧ v15 = .int .i64 x15_3 ∧ Aside0 (spec_GenerationOf.l2 kq l0 a1 t656 x8_2 x9_1 x10_2 x11_2 x14_3 x15_3 t664 t665 t668 t669 = some (r1, r2)) ∧ Aside0 (kq ≤ k2) ∧ Aside0 (Kd.R Kd.string 9 w' w.heap.size (fun k_ => some k_ ≠ ((.slice Ao23 t665.length co23) : Value).ownBlock) (.slice (some ad663) t656.length co12) t656) ∧ Aside0 (Kd.R (Kd.int .i64) 2 w' w.heap.size (fun _ => True) v661 x8_2) ∧ Aside0 (Kd.R Kd.string 9 w' w.heap.size (fun k_ => some k_ ≠ ((.slice (some ad663) t656.length co12) : Value).ownBlock) (.slice Ao23 t665.length co23) t665) ∧ Aside0 (w'.heap[gb654]? = some (.cells #[.int .i64 x655000_1, .int .i64 x655001_1] 38 (0, 0))) ∧ Aside0 (w'.heap[gb671]? = some (.cells #[.string t664, (.slice Ao23 t665.length co23), .int .i64 t668, .string t669] 60 (0, 0))) ∧ Aside0 (Below w.heap.size w w'))
            case atStart => exact ⟨(0), (0), zq4, zq4, H', ⟨Nat.le_refl _⟩, ⟨by (with_reducible repeat (first | apply zR | apply zV | apply zW)); exact Kd.R_mono (Kd.R_far (p := ⟨gb671, 3, none⟩) (Kd.R_far (p := ⟨gb671, 2, none⟩) (Kd.R_far (p := ⟨gb671, 1, none⟩) (Kd.R_far (p := ⟨gb671, 0, none⟩) (Kd.R_types HO_6.out BK671.out zq10) (fun _ hk => hk.2) (.string t664)) (fun _ hk => hk.2) (.slice Ao23 t665.length co23)) (fun _ hk => hk.2) (.int .i64 t668)) (fun _ hk => hk.2) (.string t669)) (fun _ hk => hk.1.2)⟩, ⟨by (with_reducible repeat (first | apply zR | apply zV | apply zW)); exact Kd.R_mono (Kd.R_far (p := ⟨gb671, 3, none⟩) (Kd.R_far (p := ⟨gb671, 2, none⟩) (Kd.R_far (p := ⟨gb671, 1, none⟩) (Kd.R_far (p := ⟨gb671, 0, none⟩) (Kd.R_types HO_8.out BK671.out zq10) (fun _ hk => hk.2) (.string t664)) (fun _ hk => hk.2) (.slice Ao23 t665.length co23)) (fun _ hk => hk.2) (.int .i64 t668)) (fun _ hk => hk.2) (.string t669)) (fun _ hk => trivial)⟩, ⟨by (with_reducible repeat (first | apply zR | apply zV | apply zW)); exact Kd.R_mono (Kd.R_far (p := ⟨gb671, 3, none⟩) (Kd.R_far (p := ⟨gb671, 2, none⟩) (Kd.R_far (p := ⟨gb671, 1, none⟩) (Kd.R_far (p := ⟨gb671, 0, none⟩) (Kd.R_types HO667.out BK671.out zq10) (fun _ hk => hk.2) (.string t664)) (fun _ hk => hk.2) (.slice Ao23 t665.length co23)) (fun _ hk => hk.2) (.int .i64 t668)) (fun _ hk => hk.2) (.string t669)) (fun _ hk => hk.1.2)⟩, ⟨by (with_reducible repeat (first | refine zM ?_ _ | refine zP ?_ | refine zQ ?_ _)); refine blk_far ?_ NB654_671.out _; (with_reducible repeat (first | refine zM ?_ _ | refine zP ?_ | refine zQ ?_ _)); refine blk_far ?_ NB654_671.out _; (with_reducible repeat (first | refine zM ?_ _ | refine zP ?_ | refine zQ ?_ _)); refine blk_far ?_ NB654_671.out _; (with_reducible repeat (first | refine zM ?_ _ | refine zP ?_ | refine zQ ?_ _)); refine blk_far ?_ NB654_671.out _; (with_reducible repeat (first | refine zM ?_ _ | refine zP ?_ | refine zQ ?_ _)); exact BK654.out⟩, ⟨by (with_reducible repeat (first | refine zM ?_ _ | refine zP ?_ | refine zQ ?_ _)); refine blk_put (cs := #[.string t664, .slice Ao23 t665.length co23, .int .i64 t668, .string (⟨#[]⟩ : ByteArray)]) ?_ 3 _ rfl; (with_reducible repeat (first | refine zM ?_ _ | refine zP ?_ | refine zQ ?_ _)); refine blk_put (cs := #[.string t664, .slice Ao23 t665.length co23, .int .i64 0, .string (⟨#[]⟩ : ByteArray)]) ?_ 2 _ rfl; (with_reducible repeat (first | refine zM ?_ _ | refine zP ?_ | refine zQ ?_ _)); refine blk_put (cs := #[.string t664, .slice none 0 0, .int .i64 0, .string (⟨#[]⟩ : ByteArray)]) ?_ 1 _ rfl; (with_reducible repeat (first | refine zM ?_ _ | refine zP ?_ | refine zQ ?_ _)); refine blk_put (cs := #[.string (⟨#[]⟩ : ByteArray), .slice none 0 0, .int .i64 0, .string (⟨#[]⟩ : ByteArray)]) ?_ 0 _ rfl; (with_reducible repeat (first | refine zM ?_ _ | refine zP ?_ | refine zQ ?_ _)); exact BK671.out⟩, ⟨by repeat (first | (with_reducible first | exact HB.out | apply zA | apply zN | apply zD | refine below_set ?_ GE654.out | refine below_set ?_ GE671.out) | exact HB.out)⟩⟩
            case round =>
             clear H'
             try clear c1
             try clear c2
             try clear p2
             try clear c4
             try clear c4b0
             try clear c4b1
             try clear c6
             try clear c6b0
             try clear c6b1
             try clear p6
             try clear q6
             try clear hx6
             try clear c7
             try clear c7b0
             try clear c7b1
             try clear c8
             try clear c8b0
             try clear c8b1
             try clear c15
             try clear c15b0
             try clear c16
             try clear c16b0
             try clear c17
             try clear c17b0
             try clear c19
             try clear c21
             try clear hcz22_0
             try clear hcz22_1
             try clear hcz22_2
             try clear hcz22_3
             try clear hfz22_0
             try clear hfz22_1
             try clear hfz22_2
             try clear hfz22_3
             try clear hx663_0
             try clear p2
             try clear p663
             try clear q663
             obtain ⟨x14_3, x15_3, rfl, rfl, HA, HK3, HO_6, HO_8, HO_672001, BK654, BK671, HB⟩ := hrel
             cases gk with
             | zero => exact absurd HA.out (by simp [spec_GenerationOf.l2])
             | succ k3 =>
              have H := HA.out
              clear HA
              simp only [spec_GenerationOf.l2] at H
              by_cases c24 : x15_3 < (t665.length : Int)
              ·
               rw [if_pos c24] at H
               have c24b0 : decide (x15_3 < (t665.length : Int)) = true := decide_eq_true c24
               clear c24
               have H' := zK H
               clear H
               have hnb25 := NB671_654.out
               have hnc25 := NB654_671.out
               have hcz26_0 : wr.cell? ⟨gb671, 0, none⟩ = some (.string t664) := (blk_cell BK671.out 0).trans rfl
               have hcz26_1 : wr.cell? ⟨gb671, 1, none⟩ = some (.slice Ao23 t665.length co23) := (blk_cell BK671.out 1).trans rfl
               have hcz26_2 : wr.cell? ⟨gb671, 2, none⟩ = some (.int .i64 t668) := (blk_cell BK671.out 2).trans rfl
               have hcz26_3 : wr.cell? ⟨gb671, 3, none⟩ = some (.string t669) := (blk_cell BK671.out 3).trans rfl
               have hfz26_0 := blk_frozen BK671.out 0
               have hfz26_1 := blk_frozen BK671.out 1
               have hfz26_2 := blk_frozen BK671.out 2
               have hfz26_3 := blk_frozen BK671.out 3
               go_wp2
               repeat (go_quiet (fail); try go_wp2)
               go_loopg [14, 16] k3 (fun kq v14 v16 w' => ∃ (x14_4 : Int) (x16_4 : Int), v14 = .int .i64 x14_4 ∧ v16 = .int .i64 x16_4 ∧ Aside0 (spec_GenerationOf.l3 kq l0 a1 t656 x8_2 x9_1 x10_2 x11_2 x14_4 x15_3 x16_4 t664 t665 t668 t669 = some (r1, r2)) ∧ Aside0 (kq ≤ k3) ∧ Aside0 (Kd.R Kd.string 9 w' w.heap.size (fun k_ => some k_ ≠ ((.slice Ao23 t665.length co23) : Value).ownBlock) (.slice (some ad663) t656.length co12) t656) ∧ Aside0 (Kd.R (Kd.int .i64) 2 w' w.heap.size (fun _ => True) v661 x8_2) ∧ Aside0 (Kd.R Kd.string 9 w' w.heap.size (fun k_ => some k_ ≠ ((.slice (some ad663) t656.length co12) : Value).ownBlock) (.slice Ao23 t665.length co23) t665) ∧ Aside0 (w'.heap[gb654]? = some (.cells #[.int .i64 x655000_1, .int .i64 x655001_1] 38 (0, 0))) ∧ Aside0 (w'.heap[gb671]? = some (.cells #[.string t664, (.slice Ao23 t665.length co23), .int .i64 t668, .string t669] 60 (0, 0))) ∧ Aside0 (Below w.heap.size w w'))
               case atStart => exact ⟨(x14_3), (0), zq4, zq4, H', ⟨Nat.le_refl _⟩, ⟨by (with_reducible repeat (first | apply zR | apply zV | apply zW)); exact HO_6.out⟩, ⟨by (with_reducible repeat (first | apply zR | apply zV | apply zW)); exact HO_8.out⟩, ⟨by (with_reducible repeat (first | apply zR | apply zV | apply zW)); exact HO_672001.out⟩, ⟨by (with_reducible repeat (first | refine zM ?_ _ | refine zP ?_ | refine zQ ?_ _)); exact BK654.out⟩, ⟨by (with_reducible repeat (first | refine zM ?_ _ | refine zP ?_ | refine zQ ?_ _)); exact BK671.out⟩, ⟨by repeat (first | (with_reducible first | exact HB.out | apply zA | apply zN | apply zD | refine below_set ?_ GE654.out | refine below_set ?_ GE671.out) | exact HB.out)⟩⟩
               case round =>
                clear H'
                try clear c1
                try clear c2
                try clear p2
                try clear c4
                try clear c4b0
                try clear c4b1
                try clear c6
                try clear c6b0
                try clear c6b1
                try clear p6
                try clear q6
                try clear hx6
                try clear c7
                try clear c7b0
                try clear c7b1
                try clear c8
                try clear c8b0
                try clear c8b1
                try clear c15
                try clear c15b0
                try clear c16
                try clear c16b0
                try clear c17
                try clear c17b0
                try clear c19
                try clear c21
                try clear c24
                try clear c24b0
                try clear c25
                try clear hcz22_0
                try clear hcz22_1
                try clear hcz22_2
                try clear hcz22_3
                try clear hcz26_0
                try clear hcz26_1
                try clear hcz26_2
                try clear hcz26_3
                try clear hfz22_0
                try clear hfz22_1
                try clear hfz22_2
                try clear hfz22_3
                try clear hfz26_0
                try clear hfz26_1
                try clear hfz26_2
                try clear hfz26_3
                try clear hx663_0
                try clear p2
                try clear p6
                try clear p663
                try clear q6
                try clear q663
                obtain ⟨x14_4, x16_4, rfl, rfl, HA, HK4, HO_6, HO_8, HO_672001, BK654, BK671, HB⟩ := hrel
                cases gk with
                | zero => exact absurd HA.out (by simp [spec_GenerationOf.l3])
                | succ k4 =>
                 have H := HA.out
                 clear HA
                 simp only [spec_GenerationOf.l3] at H
                 by_cases c27 : x16_4 < (t656.length : Int)
                 ·
                  rw [if_pos c27] at H
                  have c27b0 : decide (x16_4 < (t656.length : Int)) = true := decide_eq_true c27
                  clear c27
                  by_cases c28 : 0 ≤ x16_4
                  ·
                   rw [if_pos c28] at H
                   have c28b0 : decide (0 ≤ x16_4) = true := decide_eq_true c28
                   clear c28
                   by_cases c29 : 0 ≤ x15_3
                   ·
                    rw [if_pos c29] at H
                    have c29b0 : decide (0 ≤ x15_3) = true := decide_eq_true c29
                    clear c29
                    by_cases c30 : x15_3 < (t665.length : Int)
                    ·
                     rw [if_pos c30] at H
                     have c30b0 : decide (x15_3 < (t665.length : Int)) = true := decide_eq_true c30
                     clear c30
                     by_cases c31 : (rdOf ByteArray.empty t656 x16_4).toList = (rdOf ByteArray.empty t665 x15_3).toList
                     ·
                      rw [if_pos c31] at H
                      have c31b0 : ((rdOf ByteArray.empty t656 x16_4).toList == (rdOf ByteArray.empty t665 x15_3).toList) = true := beq_iff_eq.mpr c31
                      have c31b1 : ((rdOf ByteArray.empty t656 x16_4).toList != (rdOf ByteArray.empty t665 x15_3).toList) = false := bne_eq_false_iff_eq.mpr c31
                      clear c31
                      by_cases c32 : x16_4 < (x8_2.length : Int)
                      ·
                       rw [if_pos c32] at H
                       have c32b0 : decide (x16_4 < (x8_2.length : Int)) = true := decide_eq_true c32
                       clear c32
                       replace H := Option.bind_eq_some_iff.mp H
                       obtain ⟨t677, A330, H⟩ := H
                       replace H : (spec_GenerationOf.l3 k4 l0 a1 t656 x8_2 x9_1 x10_2 x11_2 t677 x15_3 (wrap64 (x16_4 + 1)) t664 t665 t668 t669) = some (r1, r2) := H
                       have A33 := zK A330
                       clear A330
                       have H' := zK H
                       clear H
                       have p674 : 0 ≤ (x16_4 : Int) := zX zq2
                       have q674 : x16_4 < (t656.length : Int) := zX zq2
                       obtain ⟨ad674, e674, hx674_0⟩ := Kd.at_string (Kd.R_reads' HO_6.out).2.2 x16_4 p674 q674
                       obtain rfl : ad663 = ad674 := (by injection e674)
                       replace p674 := eq_true p674
                       replace q674 := eq_true q674
                       have hnb34 := NB671_654.out
                       have hnc34 := NB654_671.out
                       have hcz35_0 : wr.cell? ⟨gb671, 0, none⟩ = some (.string t664) := (blk_cell BK671.out 0).trans rfl
                       have hcz35_1 : wr.cell? ⟨gb671, 1, none⟩ = some (.slice Ao23 t665.length co23) := (blk_cell BK671.out 1).trans rfl
                       have hcz35_2 : wr.cell? ⟨gb671, 2, none⟩ = some (.int .i64 t668) := (blk_cell BK671.out 2).trans rfl
                       have hcz35_3 : wr.cell? ⟨gb671, 3, none⟩ = some (.string t669) := (blk_cell BK671.out 3).trans rfl
                       have hfz35_0 := blk_frozen BK671.out 0
                       have hfz35_1 := blk_frozen BK671.out 1
                       have hfz35_2 := blk_frozen BK671.out 2
                       have hfz35_3 := blk_frozen BK671.out 3
                       have p675 : 0 ≤ (x15_3 : Int) := zX zq2
                       have q675 : x15_3 < (t665.length : Int) := zX zq2
                       obtain ⟨ad675, e675, hx675_0⟩ := Kd.at_string (Kd.R_reads' HO_672001.out).2.2 x15_3 p675 q675
                       cases e675
                       replace p675 := eq_true p675
                       replace q675 := eq_true q675
                       obtain ⟨Ao36, co36, eo36⟩ := Kd.R_slice HO_8.out
                       subst eo36
                       have p676 : 0 ≤ (x16_4 : Int) := zX zq2
                       have q676 : x16_4 < (x8_2.length : Int) := zX zq2
                       obtain ⟨ad676, e676, hx676_0⟩ := Kd.at_int (Kd.R_reads' HO_8.out).2.2 x16_4 p676 q676
                       cases e676
                       replace p676 := eq_true p676
                       replace q676 := eq_true q676
                       go_wp2_with (first | (go_at_call 41; (with_reducible refine (spec_l1Max.calls x14_4 (rd x8_2 x16_4) t677 _ A33.out).mono ?_); rintro e w' ⟨rfl, ⟨nd, rfl⟩⟩; (try first | exact ⟨rfl, _, World.drewN_drewN _ _ _⟩ | exact ⟨rfl, _, Eq.trans (World.drewN_drewN _ _ _) (congrArg (World.drewN _) (Nat.add_assoc _ _ _))⟩)))
                       repeat (go_quiet (first | (go_at_call 41; (with_reducible refine (spec_l1Max.calls x14_4 (rd x8_2 x16_4) t677 _ A33.out).mono ?_); rintro e w' ⟨rfl, ⟨nd, rfl⟩⟩; (try first | exact ⟨rfl, _, World.drewN_drewN _ _ _⟩ | exact ⟨rfl, _, Eq.trans (World.drewN_drewN _ _ _) (congrArg (World.drewN _) (Nat.add_assoc _ _ _))⟩))); try go_wp2_with (first | (go_at_call 41; (with_reducible refine (spec_l1Max.calls x14_4 (rd x8_2 x16_4) t677 _ A33.out).mono ?_); rintro e w' ⟨rfl, ⟨nd, rfl⟩⟩; (try first | exact ⟨rfl, _, World.drewN_drewN _ _ _⟩ | exact ⟨rfl, _, Eq.trans (World.drewN_drewN _ _ _) (congrArg (World.drewN _) (Nat.add_assoc _ _ _))⟩))))
                       go_roundg k4
                       case measure => have := HK1.out; have := HK2.out; have := HK3.out; have := HK4.out; omega
                       case rel => exact ⟨(t677), (wrap64 (x16_4 + 1)), zq4, zq4, H', ⟨by have := HK1.out; have := HK2.out; have := HK3.out; have := HK4.out; omega⟩, ⟨by (with_reducible repeat (first | apply zR | apply zV | apply zW)); exact HO_6.out⟩, ⟨by (with_reducible repeat (first | apply zR | apply zV | apply zW)); exact HO_8.out⟩, ⟨by (with_reducible repeat (first | apply zR | apply zV | apply zW)); exact HO_672001.out⟩, ⟨by (with_reducible repeat (first | refine zM ?_ _ | refine zP ?_ | refine zQ ?_ _)); exact BK654.out⟩, ⟨by (with_reducible repeat (first | refine zM ?_ _ | refine zP ?_ | refine zQ ?_ _)); exact BK671.out⟩, ⟨by repeat (first | (with_reducible first | exact HB.out | apply zA | apply zN | apply zD | refine below_set ?_ GE654.out | refine below_set ?_ GE671.out) | exact HB.out)⟩⟩
                      rw [if_neg c32] at H
                      exact absurd H zq13
                     rw [if_neg c31] at H
                     have c31b0 : ((rdOf ByteArray.empty t656 x16_4).toList == (rdOf ByteArray.empty t665 x15_3).toList) = false := beq_eq_false_iff_ne.mpr c31
                     have c31b1 : ((rdOf ByteArray.empty t656 x16_4).toList != (rdOf ByteArray.empty t665 x15_3).toList) = true := bne_iff_ne.mpr c31
                     have H' := zK H
                     clear H
                     have p674 : 0 ≤ (x16_4 : Int) := zX zq2
                     have q674 : x16_4 < (t656.length : Int) := zX zq2
                     obtain ⟨ad674, e674, hx674_0⟩ := Kd.at_string (Kd.R_reads' HO_6.out).2.2 x16_4 p674 q674
                     obtain rfl : ad663 = ad674 := (by injection e674)
                     replace p674 := eq_true p674
                     replace q674 := eq_true q674
                     have hnb37 := NB671_654.out
                     have hnc37 := NB654_671.out
                     have hcz38_0 : wr.cell? ⟨gb671, 0, none⟩ = some (.string t664) := (blk_cell BK671.out 0).trans rfl
                     have hcz38_1 : wr.cell? ⟨gb671, 1, none⟩ = some (.slice Ao23 t665.length co23) := (blk_cell BK671.out 1).trans rfl
                     have hcz38_2 : wr.cell? ⟨gb671, 2, none⟩ = some (.int .i64 t668) := (blk_cell BK671.out 2).trans rfl
                     have hcz38_3 : wr.cell? ⟨gb671, 3, none⟩ = some (.string t669) := (blk_cell BK671.out 3).trans rfl
                     have hfz38_0 := blk_frozen BK671.out 0
                     have hfz38_1 := blk_frozen BK671.out 1
                     have hfz38_2 := blk_frozen BK671.out 2
                     have hfz38_3 := blk_frozen BK671.out 3
                     have p675 : 0 ≤ (x15_3 : Int) := zX zq2
                     have q675 : x15_3 < (t665.length : Int) := zX zq2
                     obtain ⟨ad675, e675, hx675_0⟩ := Kd.at_string (Kd.R_reads' HO_672001.out).2.2 x15_3 p675 q675
                     cases e675
                     replace p675 := eq_true p675
                     replace q675 := eq_true q675
                     go_wp2
                     repeat (go_quiet (fail); try go_wp2)
                     go_roundg k4
                     case measure => have := HK1.out; have := HK2.out; have := HK3.out; have := HK4.out; omega
                     case rel => exact ⟨(x14_4), (wrap64 (x16_4 + 1)), zq4, zq4, H', ⟨by have := HK1.out; have := HK2.out; have := HK3.out; have := HK4.out; omega⟩, ⟨by (with_reducible repeat (first | apply zR | apply zV | apply zW)); exact HO_6.out⟩, ⟨by (with_reducible repeat (first | apply zR | apply zV | apply zW)); exact HO_8.out⟩, ⟨by (with_reducible repeat (first | apply zR | apply zV | apply zW)); exact HO_672001.out⟩, ⟨by (with_reducible repeat (first | refine zM ?_ _ | refine zP ?_ | refine zQ ?_ _)); exact BK654.out⟩, ⟨by (with_reducible repeat (first | refine zM ?_ _ | refine zP ?_ | refine zQ ?_ _)); exact BK671.out⟩, ⟨by repeat (first | (with_reducible first | exact HB.out | apply zA | apply zN | apply zD | refine below_set ?_ GE654.out | refine below_set ?_ GE671.out) | exact HB.out)⟩⟩
                    rw [if_neg c30] at H
                    exact absurd H zq13
                   rw [if_neg c29] at H
                   exact absurd H zq13
                  rw [if_neg c28] at H
                  exact absurd H zq13
                 rw [if_neg c27] at H
                 have c27b0 : decide (x16_4 < (t656.length : Int)) = false := decide_eq_false c27
                 clear c27
                 have H' := zK H
                 clear H
                 go_wp2
                 repeat (go_quiet (fail); try go_wp2)
                 go_roundg k4
                 case measure => have := HK1.out; have := HK2.out; have := HK3.out; have := HK4.out; omega
                 case rel => exact ⟨(x14_4), (wrap64 (x15_3 + 1)), zq4, zq4, H', ⟨by have := HK1.out; have := HK2.out; have := HK3.out; have := HK4.out; omega⟩, ⟨by (with_reducible repeat (first | apply zR | apply zV | apply zW)); exact HO_6.out⟩, ⟨by (with_reducible repeat (first | apply zR | apply zV | apply zW)); exact HO_8.out⟩, ⟨by (with_reducible repeat (first | apply zR | apply zV | apply zW)); exact HO_672001.out⟩, ⟨by (with_reducible repeat (first | refine zM ?_ _ | refine zP ?_ | refine zQ ?_ _)); exact BK654.out⟩, ⟨by (with_reducible repeat (first | refine zM ?_ _ | refine zP ?_ | refine zQ ?_ _)); exact BK671.out⟩, ⟨by repeat (first | (with_reducible first | exact HB.out | apply zA | apply zN | apply zD | refine below_set ?_ GE654.out | refine below_set ?_ GE671.out) | exact HB.out)⟩⟩
              rw [if_neg c24] at H
              have c24b0 : decide (x15_3 < (t665.length : Int)) = false := decide_eq_false c24
              clear c24
              by_cases c39 : 0 ≤ x11_2
              ·
               rw [if_pos c39] at H
               have c39b0 : decide (0 ≤ x11_2) = true := decide_eq_true c39
               clear c39
               by_cases c40 : x11_2 < (x8_2.length : Int)
               ·
                rw [if_pos c40] at H
                have c40b0 : decide (x11_2 < (x8_2.length : Int)) = true := decide_eq_true c40
                clear c40
                by_cases c41 : (rd x8_2 x11_2) = (wrap64 (x14_3 + 1))
                ·
                 rw [if_pos c41] at H
                 have c41b0 : ((rd x8_2 x11_2) == (wrap64 (x14_3 + 1))) = true := beq_iff_eq.mpr c41
                 have c41b1 : ((rd x8_2 x11_2) != (wrap64 (x14_3 + 1))) = false := bne_eq_false_iff_eq.mpr c41
                 clear c41
                 have H' := zK H
                 clear H
                 have hnb42 := NB671_654.out
                 have hnc42 := NB654_671.out
                 have hcz43_0 : wr.cell? ⟨gb671, 0, none⟩ = some (.string t664) := (blk_cell BK671.out 0).trans rfl
                 have hcz43_1 : wr.cell? ⟨gb671, 1, none⟩ = some (.slice Ao23 t665.length co23) := (blk_cell BK671.out 1).trans rfl
                 have hcz43_2 : wr.cell? ⟨gb671, 2, none⟩ = some (.int .i64 t668) := (blk_cell BK671.out 2).trans rfl
                 have hcz43_3 : wr.cell? ⟨gb671, 3, none⟩ = some (.string t669) := (blk_cell BK671.out 3).trans rfl
                 have hfz43_0 := blk_frozen BK671.out 0
                 have hfz43_1 := blk_frozen BK671.out 1
                 have hfz43_2 := blk_frozen BK671.out 2
                 have hfz43_3 := blk_frozen BK671.out 3
                 obtain ⟨Ao44, co44, eo44⟩ := Kd.R_slice HO_8.out
                 subst eo44
                 have p672 : 0 ≤ (x11_2 : Int) := zX zq2
                 have q672 : x11_2 < (x8_2.length : Int) := zX zq2
                 obtain ⟨ad672, e672, hx672_0⟩ := Kd.at_int (Kd.R_reads' HO_8.out).2.2 x11_2 p672 q672
                 cases e672
                 replace p672 := eq_true p672
                 replace q672 := eq_true q672
                 go_wp2
                 repeat (go_quiet (fail); try go_wp2)
                 go_roundg k3
                 case measure => have := HK1.out; have := HK2.out; have := HK3.out; omega
                 case rel => exact ⟨(x8_2), (x10_2), (wrap64 (x11_2 + 1)), zq4, zq4, H', ⟨by have := HK1.out; have := HK2.out; have := HK3.out; omega⟩, ⟨by (with_reducible repeat (first | apply zR | apply zV | apply zW)); exact Kd.R_mono HO_6.out (fun _ hk => trivial)⟩, ⟨by (with_reducible repeat (first | apply zR | apply zV | apply zW)); exact HO_8.out⟩, ⟨by (with_reducible repeat (first | refine zM ?_ _ | refine zP ?_ | refine zQ ?_ _)); exact BK654.out⟩, ⟨by repeat (first | (with_reducible first | exact HB.out | apply zA | apply zN | apply zD | refine below_set ?_ GE654.out | refine below_set ?_ GE671.out) | exact HB.out)⟩⟩
                rw [if_neg c41] at H
                have c41b0 : ((rd x8_2 x11_2) == (wrap64 (x14_3 + 1))) = false := beq_eq_false_iff_ne.mpr c41
                have c41b1 : ((rd x8_2 x11_2) != (wrap64 (x14_3 + 1))) = true := bne_iff_ne.mpr c41
                obtain ⟨y673, hy673⟩ : ∃ y_ : List Int, y_ = (x8_2.set (x11_2 : Int).toNat (wrap64 (x14_3 + 1))) := ⟨_, rfl⟩
                replace H : (spec_GenerationOf.l1 k3 l0 a1 t656 y673 x9_1 true (wrap64 (x11_2 + 1))) = some (r1, r2) := by first | (rw [hy673]; with_reducible exact H) | (have H2_ := (Option.bind_some _ _).symm.trans H; rw [hy673]; with_reducible exact H2_) | (have H2_ := (Option.bind_some _ _).symm.trans H; with_reducible exact H2_) | with_reducible exact H | (rw [hy673]; exact H) | exact H
                have Ny673 := zK hy673
                clear hy673
                have H' := zK H
                clear H
                have hnb46 := NB671_654.out
                have hnc46 := NB654_671.out
                have hcz47_0 : wr.cell? ⟨gb671, 0, none⟩ = some (.string t664) := (blk_cell BK671.out 0).trans rfl
                have hcz47_1 : wr.cell? ⟨gb671, 1, none⟩ = some (.slice Ao23 t665.length co23) := (blk_cell BK671.out 1).trans rfl
                have hcz47_2 : wr.cell? ⟨gb671, 2, none⟩ = some (.int .i64 t668) := (blk_cell BK671.out 2).trans rfl
                have hcz47_3 : wr.cell? ⟨gb671, 3, none⟩ = some (.string t669) := (blk_cell BK671.out 3).trans rfl
                have hfz47_0 := blk_frozen BK671.out 0
                have hfz47_1 := blk_frozen BK671.out 1
                have hfz47_2 := blk_frozen BK671.out 2
                have hfz47_3 := blk_frozen BK671.out 3
                obtain ⟨Ao48, co48, eo48⟩ := Kd.R_slice HO_8.out
                subst eo48
                have p672 : 0 ≤ (x11_2 : Int) := zX zq2
                have q672 : x11_2 < (x8_2.length : Int) := zX zq2
                obtain ⟨ad672, e672, hx672_0⟩ := Kd.at_int (Kd.R_reads' HO_8.out).2.2 x11_2 p672 q672
                cases e672
                replace p672 := eq_true p672
                replace q672 := eq_true q672
                have p45 : 0 ≤ (x11_2 : Int) := zX zq2
                have q45 : (x11_2 : Int) < ((x8_2.length : Int) : Int) := zX zq2
                obtain ⟨go45, co45, eo45, gb45, gl45, cl45, HG45⟩ := Kd.R_form HO_8.out zq6
                (first | cases eo45 | (injection eo45 with ea_ en_ ec_; (first | subst ea_ | (injection ea_ with ea_; subst ea_)); subst ec_; clear en_))
                have GB45 := zK gb45
                have GG45 := zK HG45
                clear gb45 gl45 HG45
                (first | simp only [add_plain] at hx672_0 | skip)
                obtain ⟨hx45_0, hf45_0⟩ := Kd.R_celln 0 HO_8.out (x11_2 : Int) p45 q45
                replace p45 := eq_true p45
                replace q45 := eq_true q45
                have HP49 := Kd.R_putg HO_8.out (x11_2 : Int) (wrap64 (x14_3 + 1))
                go_wp2_with (first | ((with_reducible refine gate_store (t := 2) (p := 98) rfl ?_); (try (rw [drewN_self wr]; generalize hq_ : World.drewN wr _ = wr; have n0_ := zK (Kd.R_at hq_ HO_6.out); have n1_ := zK (Kd.R_at hq_ HO_8.out); have n2_ := zK (Kd.R_at hq_ HO_672001.out); have n3_ := zK (blk_at hq_ BK654.out); have n4_ := zK (blk_at hq_ BK671.out); have n5_ := zK (below_at hq_ HB.out); clear hq_ HO_6 HO_8 HO_672001 BK654 BK671 HB; have HO_6 := n0_; have HO_8 := n1_; have HO_672001 := n2_; have BK654 := n3_; have BK671 := n4_; have HB := n5_; clear n0_ n1_ n2_ n3_ n4_ n5_; (try (have HP49 := Kd.R_putg HO_8.out (x11_2 : Int) (wrap64 (x14_3 + 1)))))); refine store_event (t := 2) (p := 98) (v := ?vo_w50) (w1 := (wr.setCell ⟨go45, (x11_2 : Int).toNat, none⟩ (.int .i64 (wrap64 (x14_3 + 1))))) ?hg ?ho ?hn ?hr ?_; (case ho => rfl); (case hg => rfl); (case hn => rfl); (case hr => first | (go_simp; done) | (go_simp; rfl)); intro w50 hw; have hg : wr.grownBy w50 (some go45) := (by rw [hw]; exact HP49.2); have hp_ : Kd.R (Kd.int .i64) 2 w50 w.heap.size (fun _ => True) (.slice (some ⟨go45, 0, none⟩) x8_2.length co48) y673 := (by rw [hw, Ny673.out]; exact HP49.1); clear HP49; have n0_ := zK (Kd.R_over' (v := (.slice (some ⟨go45, 0, none⟩) x8_2.length co48)) zq9 (Kd.R_typed HO_8.out) zq10 hg); have n1_ := zK (hp_); have n2_ := zK (Kd.R_over' (v := (.slice (some ⟨go45, 0, none⟩) x8_2.length co48)) zq27 (Kd.R_typed HO_8.out) zq10 hg); have n3_ := zK (blk_grown (g := gb654) (o := .cells #[.int .i64 x655000_1, .int .i64 x655001_1] 38 (0, 0)) (by (with_reducible repeat (first | refine zM ?_ _ | refine zP ?_ | refine zQ ?_ _)); exact BK654.out) hg (Kd.R_ne HO_8.out BK654.out zq10)); have n4_ := zK (blk_grown (g := gb671) (o := .cells #[.string t664, .slice Ao23 t665.length co23, .int .i64 t668, .string t669] 60 (0, 0)) (by (with_reducible repeat (first | refine zM ?_ _ | refine zP ?_ | refine zQ ?_ _)); exact BK671.out) hg (Kd.R_ne HO_8.out BK671.out zq10)); have n5_ := zK ((by rw [hw]; exact below_set (HB.out) GB45.out : Below w.heap.size w w50)); clear HO_6; clear HO_8; clear HO_672001; clear BK654; clear BK671; clear HB; have HO_6 := n0_; have HO_8 := n1_; have HO_672001 := n2_; have BK654 := n3_; have BK671 := n4_; have HB := n5_; clear n0_ n1_ n2_ n3_ n4_ n5_; clear hg hw hp_))
                repeat (go_quiet (first | ((with_reducible refine gate_store (t := 2) (p := 98) rfl ?_); (try (rw [drewN_self wr]; generalize hq_ : World.drewN wr _ = wr; have n0_ := zK (Kd.R_at hq_ HO_6.out); have n1_ := zK (Kd.R_at hq_ HO_8.out); have n2_ := zK (Kd.R_at hq_ HO_672001.out); have n3_ := zK (blk_at hq_ BK654.out); have n4_ := zK (blk_at hq_ BK671.out); have n5_ := zK (below_at hq_ HB.out); clear hq_ HO_6 HO_8 HO_672001 BK654 BK671 HB; have HO_6 := n0_; have HO_8 := n1_; have HO_672001 := n2_; have BK654 := n3_; have BK671 := n4_; have HB := n5_; clear n0_ n1_ n2_ n3_ n4_ n5_; (try (have HP49 := Kd.R_putg HO_8.out (x11_2 : Int) (wrap64 (x14_3 + 1)))))); refine store_event (t := 2) (p := 98) (v := ?vo_w50) (w1 := (wr.setCell ⟨go45, (x11_2 : Int).toNat, none⟩ (.int .i64 (wrap64 (x14_3 + 1))))) ?hg ?ho ?hn ?hr ?_; (case ho => rfl); (case hg => rfl); (case hn => rfl); (case hr => first | (go_simp; done) | (go_simp; rfl)); intro w50 hw; have hg : wr.grownBy w50 (some go45) := (by rw [hw]; exact HP49.2); have hp_ : Kd.R (Kd.int .i64) 2 w50 w.heap.size (fun _ => True) (.slice (some ⟨go45, 0, none⟩) x8_2.length co48) y673 := (by rw [hw, Ny673.out]; exact HP49.1); clear HP49; have n0_ := zK (Kd.R_over' (v := (.slice (some ⟨go45, 0, none⟩) x8_2.length co48)) zq9 (Kd.R_typed HO_8.out) zq10 hg); have n1_ := zK (hp_); have n2_ := zK (Kd.R_over' (v := (.slice (some ⟨go45, 0, none⟩) x8_2.length co48)) zq27 (Kd.R_typed HO_8.out) zq10 hg); have n3_ := zK (blk_grown (g := gb654) (o := .cells #[.int .i64 x655000_1, .int .i64 x655001_1] 38 (0, 0)) (by (with_reducible repeat (first | refine zM ?_ _ | refine zP ?_ | refine zQ ?_ _)); exact BK654.out) hg (Kd.R_ne HO_8.out BK654.out zq10)); have n4_ := zK (blk_grown (g := gb671) (o := .cells #[.string t664, .slice Ao23 t665.length co23, .int .i64 t668, .string t669] 60 (0, 0)) (by (with_reducible repeat (first | refine zM ?_ _ | refine zP ?_ | refine zQ ?_ _)); exact BK671.out) hg (Kd.R_ne HO_8.out BK671.out zq10)); have n5_ := zK ((by rw [hw]; exact below_set (HB.out) GB45.out : Below w.heap.size w w50)); clear HO_6; clear HO_8; clear HO_672001; clear BK654; clear BK671; clear HB; have HO_6 := n0_; have HO_8 := n1_; have HO_672001 := n2_; have BK654 := n3_; have BK671 := n4_; have HB := n5_; clear n0_ n1_ n2_ n3_ n4_ n5_; clear hg hw hp_)); try go_wp2_with (first | ((with_reducible refine gate_store (t := 2) (p := 98) rfl ?_); (try (rw [drewN_self wr]; generalize hq_ : World.drewN wr _ = wr; have n0_ := zK (Kd.R_at hq_ HO_6.out); have n1_ := zK (Kd.R_at hq_ HO_8.out); have n2_ := zK (Kd.R_at hq_ HO_672001.out); have n3_ := zK (blk_at hq_ BK654.out); have n4_ := zK (blk_at hq_ BK671.out); have n5_ := zK (below_at hq_ HB.out); clear hq_ HO_6 HO_8 HO_672001 BK654 BK671 HB; have HO_6 := n0_; have HO_8 := n1_; have HO_672001 := n2_; have BK654 := n3_; have BK671 := n4_; have HB := n5_; clear n0_ n1_ n2_ n3_ n4_ n5_; (try (have HP49 := Kd.R_putg HO_8.out (x11_2 : Int) (wrap64 (x14_3 + 1)))))); refine store_event (t := 2) (p := 98) (v := ?vo_w50) (w1 := (wr.setCell ⟨go45, (x11_2 : Int).toNat, none⟩ (.int .i64 (wrap64 (x14_3 + 1))))) ?hg ?ho ?hn ?hr ?_; (case ho => rfl); (case hg => rfl); (case hn => rfl); (case hr => first | (go_simp; done) | (go_simp; rfl)); intro w50 hw; have hg : wr.grownBy w50 (some go45) := (by rw [hw]; exact HP49.2); have hp_ : Kd.R (Kd.int .i64) 2 w50 w.heap.size (fun _ => True) (.slice (some ⟨go45, 0, none⟩) x8_2.length co48) y673 := (by rw [hw, Ny673.out]; exact HP49.1); clear HP49; have n0_ := zK (Kd.R_over' (v := (.slice (some ⟨go45, 0, none⟩) x8_2.length co48)) zq9 (Kd.R_typed HO_8.out) zq10 hg); have n1_ := zK (hp_); have n2_ := zK (Kd.R_over' (v := (.slice (some ⟨go45, 0, none⟩) x8_2.length co48)) zq27 (Kd.R_typed HO_8.out) zq10 hg); have n3_ := zK (blk_grown (g := gb654) (o := .cells #[.int .i64 x655000_1, .int .i64 x655001_1] 38 (0, 0)) (by (with_reducible repeat (first | refine zM ?_ _ | refine zP ?_ | refine zQ ?_ _)); exact BK654.out) hg (Kd.R_ne HO_8.out BK654.out zq10)); have n4_ := zK (blk_grown (g := gb671) (o := .cells #[.string t664, .slice Ao23 t665.length co23, .int .i64 t668, .string t669] 60 (0, 0)) (by (with_reducible repeat (first | refine zM ?_ _ | refine zP ?_ | refine zQ ?_ _)); exact BK671.out) hg (Kd.R_ne HO_8.out BK671.out zq10)); have n5_ := zK ((by rw [hw]; exact below_set (HB.out) GB45.out : Below w.heap.size w w50)); clear HO_6; clear HO_8; clear HO_672001; clear BK654; clear BK671; clear HB; have HO_6 := n0_; have HO_8 := n1_; have HO_672001 := n2_; have BK654 := n3_; have BK671 := n4_; have HB := n5_; clear n0_ n1_ n2_ n3_ n4_ n5_; clear hg hw hp_)))
                go_roundg k3
                case measure => have := HK1.out; have := HK2.out; have := HK3.out; omega
                case rel => exact ⟨(y673), (true), (wrap64 (x11_2 + 1)), zq4, zq4, H', ⟨by have := HK1.out; have := HK2.out; have := HK3.out; omega⟩, ⟨by (with_reducible repeat (first | apply zR | apply zV | apply zW)); exact Kd.R_mono HO_6.out (fun _ hk => trivial)⟩, ⟨by (with_reducible repeat (first | apply zR | apply zV | apply zW)); exact HO_8.out⟩, ⟨by (with_reducible repeat (first | refine zM ?_ _ | refine zP ?_ | refine zQ ?_ _)); exact BK654.out⟩, ⟨by repeat (first | (with_reducible first | exact HB.out | apply zA | apply zN | apply zD | refine below_set ?_ GE654.out | refine below_set ?_ GE671.out) | exact HB.out)⟩⟩
               rw [if_neg c40] at H
               exact absurd H zq13
              rw [if_neg c39] at H
              exact absurd H zq13
           rw [if_neg c17] at H
           exact absurd H zq13
          rw [if_neg c16] at H
          have c16b0 : decide (x11_2 < (t656.length : Int)) = false := decide_eq_false c16
          clear c16
          by_cases c51 : x10_2 = true
          ·
           subst c51
           have H1 : (spec_GenerationOf.l0 k2 l0 a1 t656 x8_2 (wrap64 (x9_1 + 1))) = some (r1, r2) := by rw [if_pos rfl] at H; exact H
           clear H
           have H := H1
           clear H1
           have H' := zK H
           clear H
           go_wp2
           repeat (go_quiet (fail); try go_wp2)
           go_roundg k2
           case measure => have := HK1.out; have := HK2.out; omega
           case rel => exact ⟨(x8_2), (wrap64 (x9_1 + 1)), (x655000_1), (x655001_1), zq4, H', ⟨by have := HK1.out; have := HK2.out; omega⟩, ⟨by (with_reducible repeat (first | apply zR | apply zV | apply zW)); exact HO_6.out⟩, ⟨by (with_reducible repeat (first | apply zR | apply zV | apply zW)); exact HO_8.out⟩, ⟨by (with_reducible repeat (first | refine zM ?_ _ | refine zP ?_ | refine zQ ?_ _)); exact BK654.out⟩, ⟨by repeat (first | (with_reducible first | exact HB.out | apply zA | apply zN | apply zD | refine below_set ?_ GE654.out) | exact HB.out)⟩⟩
          replace c51 := Bool.eq_false_iff.mpr c51
          subst c51
          have H1 : (spec_GenerationOf.l4 k2 l0 a1 t656 x8_2 x9_1 0) = some (r1, r2) := by rw [if_neg (show ¬ (false = true) by decide)] at H; exact H
          clear H
          have H := H1
          clear H1
          have H' := zK H
          clear H
          go_wp2
          repeat (go_quiet (fail); try go_wp2)
          go_loopg [17] k2 (fun kq v17 w' => ∃ (x17_3 : Int) (x655000_3 : Int) (x655001_3 : Int), v17 = .int .i64 x17_3 ∧ Aside0 (spec_GenerationOf.l4 kq l0 a1 t656 x8_2 x9_1 x17_3 = some (r1, r2)) ∧ Aside0 (kq ≤ k2) ∧ Aside0 (Kd.R Kd.string 9 w' w.heap.size (fun _ => True) (.slice Ao12 t656.length co12) t656) ∧ Aside0 (Kd.R (Kd.int .i64) 2 w' w.heap.size (fun _ => True) v661 x8_2) ∧ Aside0 (w'.heap[gb654]? = some (.cells #[.int .i64 x655000_3, .int .i64 x655001_3] 38 (0, 0))) ∧ Aside0 (Below w.heap.size w w'))
          case atStart => exact ⟨(0), (x655000_1), (x655001_1), zq4, H', ⟨Nat.le_refl _⟩, ⟨by (with_reducible repeat (first | apply zR | apply zV | apply zW)); exact HO_6.out⟩, ⟨by (with_reducible repeat (first | apply zR | apply zV | apply zW)); exact HO_8.out⟩, ⟨by (with_reducible repeat (first | refine zM ?_ _ | refine zP ?_ | refine zQ ?_ _)); exact BK654.out⟩, ⟨by repeat (first | (with_reducible first | exact HB.out | apply zA | apply zN | apply zD | refine below_set ?_ GE654.out) | exact HB.out)⟩⟩
          case round =>
           clear H'
           try clear c1
           try clear c2
           try clear p2
           try clear c3
           try clear c4
           try clear c4b0
           try clear c4b1
           try clear p4
           try clear q4
           try clear hx4
           try clear hf4
           try clear c5
           try clear c6
           try clear c6b0
           try clear c6b1
           try clear p6
           try clear q6
           try clear hx6
           try clear c7
           try clear c7b0
           try clear c7b1
           try clear c8
           try clear c8b0
           try clear c8b1
           try clear c15
           try clear c15b0
           try clear c16
           try clear c16b0
           try clear c17
           try clear c17b0
           try clear c19
           try clear c21
           try clear c24
           try clear c24b0
           try clear c25
           try clear c27
           try clear c27b0
           try clear c28
           try clear c28b0
           try clear c29
           try clear c29b0
           try clear c30
           try clear c30b0
           try clear c31
           try clear c31b0
           try clear c31b1
           try clear c32
           try clear c32b0
           try clear c34
           try clear c37
           try clear c39
           try clear c39b0
           try clear c40
           try clear c40b0
           try clear c41
           try clear c41b0
           try clear c41b1
           try clear c42
           try clear p45
           try clear q45
           try clear hx45
           try clear hf45
           try clear c46
           try clear c51
           try clear hcz22_0
           try clear hcz22_1
           try clear hcz22_2
           try clear hcz22_3
           try clear hcz26_0
           try clear hcz26_1
           try clear hcz26_2
           try clear hcz26_3
           try clear hcz35_0
           try clear hcz35_1
           try clear hcz35_2
           try clear hcz35_3
           try clear hcz38_0
           try clear hcz38_1
           try clear hcz38_2
           try clear hcz38_3
           try clear hcz43_0
           try clear hcz43_1
           try clear hcz43_2
           try clear hcz43_3
           try clear hcz47_0
           try clear hcz47_1
           try clear hcz47_2
           try clear hcz47_3
           try clear hfz22_0
           try clear hfz22_1
           try clear hfz22_2
           try clear hfz22_3
           try clear hfz26_0
           try clear hfz26_1
           try clear hfz26_2
           try clear hfz26_3
           try clear hfz35_0
           try clear hfz35_1
           try clear hfz35_2
           try clear hfz35_3
           try clear hfz38_0
           try clear hfz38_1
           try clear hfz38_2
           try clear hfz38_3
           try clear hfz43_0
           try clear hfz43_1
           try clear hfz43_2
           try clear hfz43_3
           try clear hfz47_0
           try clear hfz47_1
           try clear hfz47_2
           try clear hfz47_3
           try clear hx45_0
           try clear hx663_0
           try clear hx672_0
           try clear hx674_0
           try clear hx675_0
           try clear hx676_0
           try clear p2
           try clear p45
           try clear p6
           try clear p663
           try clear p672
           try clear p674
           try clear p675
           try clear p676
           try clear q45
           try clear q6
           try clear q663
           try clear q672
           try clear q674
           try clear q675
           try clear q676
           obtain ⟨x17_3, x655000_3, x655001_3, rfl, HA, HK3, HO_6, HO_8, BK654, HB⟩ := hrel
           cases gk with
           | zero => exact absurd HA.out (by simp [spec_GenerationOf.l4])
           | succ k3 =>
            have H := HA.out
            clear HA
            simp only [spec_GenerationOf.l4] at H
            by_cases c52 : x17_3 < (t656.length : Int)
            ·
             rw [if_pos c52] at H
             have c52b0 : decide (x17_3 < (t656.length : Int)) = true := decide_eq_true c52
             clear c52
             by_cases c53 : 0 ≤ x17_3
             ·
              rw [if_pos c53] at H
              have c53b0 : decide (0 ≤ x17_3) = true := decide_eq_true c53
              clear c53
              by_cases c54 : (rdOf ByteArray.empty t656 x17_3).toList = a1.toList
              ·
               rw [if_pos c54] at H
               have c54b0 : ((rdOf ByteArray.empty t656 x17_3).toList == a1.toList) = true := beq_iff_eq.mpr c54
               have c54b1 : ((rdOf ByteArray.empty t656 x17_3).toList != a1.toList) = false := bne_eq_false_iff_eq.mpr c54
               clear c54
               by_cases c55 : x17_3 < (x8_2.length : Int)
               ·
                rw [if_pos c55] at H
                have c55b0 : decide (x17_3 < (x8_2.length : Int)) = true := decide_eq_true c55
                clear c55
                simp only [Option.some.injEq, Prod.mk.injEq] at H
                obtain ⟨rfl, rfl⟩ := H
                have p678 : 0 ≤ (x17_3 : Int) := zX zq2
                have q678 : x17_3 < (t656.length : Int) := zX zq2
                obtain ⟨ad678, e678, hx678_0⟩ := Kd.at_string (Kd.R_reads' HO_6.out).2.2 x17_3 p678 q678
                cases e678
                replace p678 := eq_true p678
                replace q678 := eq_true q678
                obtain ⟨Ao56, co56, eo56⟩ := Kd.R_slice HO_8.out
                subst eo56
                have p679 : 0 ≤ (x17_3 : Int) := zX zq2
                have q679 : x17_3 < (x8_2.length : Int) := zX zq2
                obtain ⟨ad679, e679, hx679_0⟩ := Kd.at_int (Kd.R_reads' HO_8.out).2.2 x17_3 p679 q679
                cases e679
                replace p679 := eq_true p679
                replace q679 := eq_true q679
                have hcz57_0 : wr.cell? ⟨gb654, 0, none⟩ = some (.int .i64 x655000_3) := (blk_cell BK654.out 0).trans rfl
                have hcz57_1 : wr.cell? ⟨gb654, 1, none⟩ = some (.int .i64 x655001_3) := (blk_cell BK654.out 1).trans rfl
                have hfz57_0 := blk_frozen BK654.out 0
                have hfz57_1 := blk_frozen BK654.out 1
                go_wp2
                repeat (go_quiet (fail); try go_wp2)
                refine bodyPost_ret (results_cell_row rfl _ _ gb654 38 #[.int .i64 0, .int .i64 (rd x8_2 x17_3)] (0, 0) _ rfl (by (with_reducible repeat (first | refine zM ?_ _ | refine zP ?_ | refine zQ ?_ _)); refine blk_put (cs := #[.int .i64 0, .int .i64 x655001_3]) ?_ 1 _ rfl; (with_reducible repeat (first | refine zM ?_ _ | refine zP ?_ | refine zQ ?_ _)); refine blk_put (cs := #[.int .i64 x655000_3, .int .i64 x655001_3]) ?_ 0 _ rfl; (with_reducible repeat (first | refine zM ?_ _ | refine zP ?_ | refine zQ ?_ _)); exact BK654.out) Tryz.underlying38 rfl zq5) rfl ?_
                exact ⟨zq3, (by repeat (first | (with_reducible first | exact HB.out | apply zA | apply zN | apply zD | refine below_set ?_ GE654.out) | exact HB.out))⟩
               rw [if_neg c55] at H
               exact absurd H zq13
              rw [if_neg c54] at H
              have c54b0 : ((rdOf ByteArray.empty t656 x17_3).toList == a1.toList) = false := beq_eq_false_iff_ne.mpr c54
              have c54b1 : ((rdOf ByteArray.empty t656 x17_3).toList != a1.toList) = true := bne_iff_ne.mpr c54
              have H' := zK H
              clear H
              have p678 : 0 ≤ (x17_3 : Int) := zX zq2
              have q678 : x17_3 < (t656.length : Int) := zX zq2
              obtain ⟨ad678, e678, hx678_0⟩ := Kd.at_string (Kd.R_reads' HO_6.out).2.2 x17_3 p678 q678
              cases e678
              replace p678 := eq_true p678
              replace q678 := eq_true q678
              go_wp2
              repeat (go_quiet (fail); try go_wp2)
              go_roundg k3
              case measure => have := HK1.out; have := HK2.out; have := HK3.out; omega
              case rel => exact ⟨(wrap64 (x17_3 + 1)), (x655000_3), (x655001_3), zq4, H', ⟨by have := HK1.out; have := HK2.out; have := HK3.out; omega⟩, ⟨by (with_reducible repeat (first | apply zR | apply zV | apply zW)); exact HO_6.out⟩, ⟨by (with_reducible repeat (first | apply zR | apply zV | apply zW)); exact HO_8.out⟩, ⟨by (with_reducible repeat (first | refine zM ?_ _ | refine zP ?_ | refine zQ ?_ _)); exact BK654.out⟩, ⟨by repeat (first | (with_reducible first | exact HB.out | apply zA | apply zN | apply zD | refine below_set ?_ GE654.out) | exact HB.out)⟩⟩
             rw [if_neg c53] at H
             exact absurd H zq13
            rw [if_neg c52] at H
            have c52b0 : decide (x17_3 < (t656.length : Int)) = false := decide_eq_false c52
            clear c52
            have H' := zK H
            clear H
            go_wp2
            repeat (go_quiet (fail); try go_wp2)
            go_roundg k3
            case measure => have := HK1.out; have := HK2.out; have := HK3.out; omega
            case rel => exact ⟨(x8_2), (wrap64 (x9_1 + 1)), (x655000_3), (x655001_3), zq4, H', ⟨by have := HK1.out; have := HK2.out; have := HK3.out; omega⟩, ⟨by (with_reducible repeat (first | apply zR | apply zV | apply zW)); exact HO_6.out⟩, ⟨by (with_reducible repeat (first | apply zR | apply zV | apply zW)); exact HO_8.out⟩, ⟨by (with_reducible repeat (first | refine zM ?_ _ | refine zP ?_ | refine zQ ?_ _)); exact BK654.out⟩, ⟨by repeat (first | (with_reducible first | exact HB.out | apply zA | apply zN | apply zD | refine below_set ?_ GE654.out) | exact HB.out)⟩⟩
       rw [if_neg c15] at H
       have c15b0 : decide (x9_1 ≤ (t656.length : Int)) = false := decide_eq_false c15
       clear c15
       simp only [Option.some.injEq, Prod.mk.injEq] at H
       obtain ⟨rfl, rfl⟩ := H
       have hcz58_0 : wr.cell? ⟨gb654, 0, none⟩ = some (.int .i64 x655000_1) := (blk_cell BK654.out 0).trans rfl
       have hcz58_1 : wr.cell? ⟨gb654, 1, none⟩ = some (.int .i64 x655001_1) := (blk_cell BK654.out 1).trans rfl
       have hfz58_0 := blk_frozen BK654.out 0
       have hfz58_1 := blk_frozen BK654.out 1
       go_wp2
       repeat (go_quiet (fail); try go_wp2)
       refine bodyPost_ret (results_cell_row rfl _ _ gb654 38 #[.int .i64 1, .int .i64 0] (0, 0) _ rfl (by (with_reducible repeat (first | refine zM ?_ _ | refine zP ?_ | refine zQ ?_ _)); refine blk_put (cs := #[.int .i64 1, .int .i64 x655001_1]) ?_ 1 _ rfl; (with_reducible repeat (first | refine zM ?_ _ | refine zP ?_ | refine zQ ?_ _)); refine blk_put (cs := #[.int .i64 x655000_1, .int .i64 x655001_1]) ?_ 0 _ rfl; (with_reducible repeat (first | refine zM ?_ _ | refine zP ?_ | refine zQ ?_ _)); exact BK654.out) Tryz.underlying38 rfl zq5) rfl ?_
       exact ⟨zq3, (by repeat (first | (with_reducible first | exact HB.out | apply zA | apply zN | apply zD | refine below_set ?_ GE654.out) | exact HB.out))⟩
    rw [if_neg c8] at H
    exact absurd H zq13
   rw [if_neg c7] at H
   exact absurd H zq13
  rw [if_neg c6] at H
  have c6b0 : (t657 == 0) = false := beq_eq_false_iff_ne.mpr c6
  have c6b1 : (t657 != 0) = true := bne_iff_ne.mpr c6
  simp only [Option.some.injEq, Prod.mk.injEq] at H
  obtain ⟨rfl, rfl⟩ := H
  go_enter Tryz.func19, Tryz.ntmps19
  go_wp2_with (first | ((with_reducible refine gate_dst (N := 4) rfl ?_); refine box_event ?hg (N := 4) ?hd (cs := #[.int .i64 0, .int .i64 0]) (t := 38) ?hr ?_; (case hd => rfl); (case hg => rfl); (case hr => first | (go_simp; done) | (go_simp; rfl)); intro gb654 hg w59 hbox hb; have n0_ := zK (below_step zq0 hb); have n1_ := zK (hbox); have n2_ := zK ((by rw [hg]; exact (below_size zq0) : w.heap.size ≤ gb654)); have n3_ := zK ((by rw [hg]; exact (below_size zq0) : w.heap.size ≤ gb654)); clear HB; have HB := n0_; have BK654 := n1_; have GW654 := n2_; have GE654 := n3_; clear n0_ n1_ n2_ n3_; clear hb hbox hg) | (go_at_call 28; (with_reducible refine (spec_StoreFault.calls k _ _ l0 t655 _ ?side1 ?side2 A3.out).mono ?_); (case side1 => repeat (first | exact (Kd.C_below HR0.out HB.out) | (with_reducible refine Kd.C_alloc ?_ _) | (with_reducible refine Kd.C_drewN ?_ _) | (with_reducible refine Kd.C_drew ?_))); (case side2 => exact HC0.out); rintro e w60 ⟨rfl, hb⟩; have n0_ := zK (blk_below (g := gb654) (o := .cells #[.int .i64 0, .int .i64 0] 38 (0, 0)) (by (with_reducible repeat (first | refine zM ?_ _ | refine zP ?_ | refine zQ ?_ _)); exact BK654.out) hb); have n1_ := zK (below_step (by repeat (first | (with_reducible first | exact HB.out | apply zA | apply zN | apply zD | refine below_set ?_ GE654.out) | exact HB.out)) hb); clear BK654; clear HB; have BK654 := n0_; have HB := n1_; clear n0_ n1_; (try clear hb); (try clear hb2); (try clear hk); (try clear hi)) | (go_at_call 34; (with_reducible refine (spec_l9History.calls k _ _ l0 a1 t656 t657 _ ?side1 ?side2 A5.out).mono ?_); (case side1 => repeat (first | exact (Kd.C_below HR0.out HB.out) | (with_reducible refine Kd.C_alloc ?_ _) | (with_reducible refine Kd.C_drewN ?_ _) | (with_reducible refine Kd.C_drew ?_))); (case side2 => exact HC0.out); rintro e w61 ⟨v658, rfl, ho0, hb⟩; have n0_ := zK (Kd.R_lower ho0 (below_size (by repeat (first | (with_reducible first | exact HB.out | apply zA | apply zN | apply zD | refine below_set ?_ GE654.out) | exact HB.out)))); have n1_ := zK (blk_below (g := gb654) (o := .cells #[.int .i64 0, .int .i64 0] 38 (0, 0)) (by (with_reducible repeat (first | refine zM ?_ _ | refine zP ?_ | refine zQ ?_ _)); exact BK654.out) hb); have n2_ := zK (below_step (by repeat (first | (with_reducible first | exact HB.out | apply zA | apply zN | apply zD | refine below_set ?_ GE654.out) | exact HB.out)) hb); clear BK654; clear HB; have HO659 := n0_; have BK654 := n1_; have HB := n2_; clear n0_ n1_ n2_; (try clear hb); (try clear hb2); (try clear hk); (try clear hi); (try clear ho0); have hcz62_0 : w61.cell? ⟨gb654, 0, none⟩ = some (.int .i64 0) := (blk_cell BK654.out 0).trans rfl; have hcz62_1 : w61.cell? ⟨gb654, 1, none⟩ = some (.int .i64 0) := (blk_cell BK654.out 1).trans rfl; have hfz62_0 := blk_frozen BK654.out 0; have hfz62_1 := blk_frozen BK654.out 1))
  repeat (go_quiet (first | ((with_reducible refine gate_dst (N := 4) rfl ?_); refine box_event ?hg (N := 4) ?hd (cs := #[.int .i64 0, .int .i64 0]) (t := 38) ?hr ?_; (case hd => rfl); (case hg => rfl); (case hr => first | (go_simp; done) | (go_simp; rfl)); intro gb654 hg w59 hbox hb; have n0_ := zK (below_step zq0 hb); have n1_ := zK (hbox); have n2_ := zK ((by rw [hg]; exact (below_size zq0) : w.heap.size ≤ gb654)); have n3_ := zK ((by rw [hg]; exact (below_size zq0) : w.heap.size ≤ gb654)); clear HB; have HB := n0_; have BK654 := n1_; have GW654 := n2_; have GE654 := n3_; clear n0_ n1_ n2_ n3_; clear hb hbox hg) | (go_at_call 28; (with_reducible refine (spec_StoreFault.calls k _ _ l0 t655 _ ?side1 ?side2 A3.out).mono ?_); (case side1 => repeat (first | exact (Kd.C_below HR0.out HB.out) | (with_reducible refine Kd.C_alloc ?_ _) | (with_reducible refine Kd.C_drewN ?_ _) | (with_reducible refine Kd.C_drew ?_))); (case side2 => exact HC0.out); rintro e w60 ⟨rfl, hb⟩; have n0_ := zK (blk_below (g := gb654) (o := .cells #[.int .i64 0, .int .i64 0] 38 (0, 0)) (by (with_reducible repeat (first | refine zM ?_ _ | refine zP ?_ | refine zQ ?_ _)); exact BK654.out) hb); have n1_ := zK (below_step (by repeat (first | (with_reducible first | exact HB.out | apply zA | apply zN | apply zD | refine below_set ?_ GE654.out) | exact HB.out)) hb); clear BK654; clear HB; have BK654 := n0_; have HB := n1_; clear n0_ n1_; (try clear hb); (try clear hb2); (try clear hk); (try clear hi)) | (go_at_call 34; (with_reducible refine (spec_l9History.calls k _ _ l0 a1 t656 t657 _ ?side1 ?side2 A5.out).mono ?_); (case side1 => repeat (first | exact (Kd.C_below HR0.out HB.out) | (with_reducible refine Kd.C_alloc ?_ _) | (with_reducible refine Kd.C_drewN ?_ _) | (with_reducible refine Kd.C_drew ?_))); (case side2 => exact HC0.out); rintro e w61 ⟨v658, rfl, ho0, hb⟩; have n0_ := zK (Kd.R_lower ho0 (below_size (by repeat (first | (with_reducible first | exact HB.out | apply zA | apply zN | apply zD | refine below_set ?_ GE654.out) | exact HB.out)))); have n1_ := zK (blk_below (g := gb654) (o := .cells #[.int .i64 0, .int .i64 0] 38 (0, 0)) (by (with_reducible repeat (first | refine zM ?_ _ | refine zP ?_ | refine zQ ?_ _)); exact BK654.out) hb); have n2_ := zK (below_step (by repeat (first | (with_reducible first | exact HB.out | apply zA | apply zN | apply zD | refine below_set ?_ GE654.out) | exact HB.out)) hb); clear BK654; clear HB; have HO659 := n0_; have BK654 := n1_; have HB := n2_; clear n0_ n1_ n2_; (try clear hb); (try clear hb2); (try clear hk); (try clear hi); (try clear ho0); have hcz62_0 : w61.cell? ⟨gb654, 0, none⟩ = some (.int .i64 0) := (blk_cell BK654.out 0).trans rfl; have hcz62_1 : w61.cell? ⟨gb654, 1, none⟩ = some (.int .i64 0) := (blk_cell BK654.out 1).trans rfl; have hfz62_0 := blk_frozen BK654.out 0; have hfz62_1 := blk_frozen BK654.out 1)); try go_wp2_with (first | ((with_reducible refine gate_dst (N := 4) rfl ?_); refine box_event ?hg (N := 4) ?hd (cs := #[.int .i64 0, .int .i64 0]) (t := 38) ?hr ?_; (case hd => rfl); (case hg => rfl); (case hr => first | (go_simp; done) | (go_simp; rfl)); intro gb654 hg w59 hbox hb; have n0_ := zK (below_step zq0 hb); have n1_ := zK (hbox); have n2_ := zK ((by rw [hg]; exact (below_size zq0) : w.heap.size ≤ gb654)); have n3_ := zK ((by rw [hg]; exact (below_size zq0) : w.heap.size ≤ gb654)); clear HB; have HB := n0_; have BK654 := n1_; have GW654 := n2_; have GE654 := n3_; clear n0_ n1_ n2_ n3_; clear hb hbox hg) | (go_at_call 28; (with_reducible refine (spec_StoreFault.calls k _ _ l0 t655 _ ?side1 ?side2 A3.out).mono ?_); (case side1 => repeat (first | exact (Kd.C_below HR0.out HB.out) | (with_reducible refine Kd.C_alloc ?_ _) | (with_reducible refine Kd.C_drewN ?_ _) | (with_reducible refine Kd.C_drew ?_))); (case side2 => exact HC0.out); rintro e w60 ⟨rfl, hb⟩; have n0_ := zK (blk_below (g := gb654) (o := .cells #[.int .i64 0, .int .i64 0] 38 (0, 0)) (by (with_reducible repeat (first | refine zM ?_ _ | refine zP ?_ | refine zQ ?_ _)); exact BK654.out) hb); have n1_ := zK (below_step (by repeat (first | (with_reducible first | exact HB.out | apply zA | apply zN | apply zD | refine below_set ?_ GE654.out) | exact HB.out)) hb); clear BK654; clear HB; have BK654 := n0_; have HB := n1_; clear n0_ n1_; (try clear hb); (try clear hb2); (try clear hk); (try clear hi)) | (go_at_call 34; (with_reducible refine (spec_l9History.calls k _ _ l0 a1 t656 t657 _ ?side1 ?side2 A5.out).mono ?_); (case side1 => repeat (first | exact (Kd.C_below HR0.out HB.out) | (with_reducible refine Kd.C_alloc ?_ _) | (with_reducible refine Kd.C_drewN ?_ _) | (with_reducible refine Kd.C_drew ?_))); (case side2 => exact HC0.out); rintro e w61 ⟨v658, rfl, ho0, hb⟩; have n0_ := zK (Kd.R_lower ho0 (below_size (by repeat (first | (with_reducible first | exact HB.out | apply zA | apply zN | apply zD | refine below_set ?_ GE654.out) | exact HB.out)))); have n1_ := zK (blk_below (g := gb654) (o := .cells #[.int .i64 0, .int .i64 0] 38 (0, 0)) (by (with_reducible repeat (first | refine zM ?_ _ | refine zP ?_ | refine zQ ?_ _)); exact BK654.out) hb); have n2_ := zK (below_step (by repeat (first | (with_reducible first | exact HB.out | apply zA | apply zN | apply zD | refine below_set ?_ GE654.out) | exact HB.out)) hb); clear BK654; clear HB; have HO659 := n0_; have BK654 := n1_; have HB := n2_; clear n0_ n1_ n2_; (try clear hb); (try clear hb2); (try clear hk); (try clear hi); (try clear ho0); have hcz62_0 : w61.cell? ⟨gb654, 0, none⟩ = some (.int .i64 0) := (blk_cell BK654.out 0).trans rfl; have hcz62_1 : w61.cell? ⟨gb654, 1, none⟩ = some (.int .i64 0) := (blk_cell BK654.out 1).trans rfl; have hfz62_0 := blk_frozen BK654.out 0; have hfz62_1 := blk_frozen BK654.out 1)))
  refine bodyPost_ret (results_cell_row rfl _ _ gb654 38 #[.int .i64 t657, .int .i64 0] (0, 0) _ rfl (by (with_reducible repeat (first | refine zM ?_ _ | refine zP ?_ | refine zQ ?_ _)); refine blk_put (cs := #[.int .i64 t657, .int .i64 0]) ?_ 1 _ rfl; (with_reducible repeat (first | refine zM ?_ _ | refine zP ?_ | refine zQ ?_ _)); refine blk_put (cs := #[.int .i64 0, .int .i64 0]) ?_ 0 _ rfl; (with_reducible repeat (first | refine zM ?_ _ | refine zP ?_ | refine zQ ?_ _)); exact BK654.out) Tryz.underlying38 rfl zq5) rfl ?_
  exact ⟨zq3, (by repeat (first | (with_reducible first | exact HB.out | apply zA | apply zN | apply zD | refine below_set ?_ GE654.out) | exact HB.out))⟩
 rw [if_neg c4] at H
 have c4b0 : (t655 == 0) = false := beq_eq_false_iff_ne.mpr c4
 have c4b1 : (t655 != 0) = true := bne_iff_ne.mpr c4
 simp only [Option.some.injEq, Prod.mk.injEq] at H
 obtain ⟨rfl, rfl⟩ := H
 go_enter Tryz.func19, Tryz.ntmps19
 go_wp2_with (first | ((with_reducible refine gate_dst (N := 4) rfl ?_); refine box_event ?hg (N := 4) ?hd (cs := #[.int .i64 0, .int .i64 0]) (t := 38) ?hr ?_; (case hd => rfl); (case hg => rfl); (case hr => first | (go_simp; done) | (go_simp; rfl)); intro gb654 hg w63 hbox hb; have n0_ := zK (below_step zq0 hb); have n1_ := zK (hbox); have n2_ := zK ((by rw [hg]; exact (below_size zq0) : w.heap.size ≤ gb654)); have n3_ := zK ((by rw [hg]; exact (below_size zq0) : w.heap.size ≤ gb654)); clear HB; have HB := n0_; have BK654 := n1_; have GW654 := n2_; have GE654 := n3_; clear n0_ n1_ n2_ n3_; clear hb hbox hg) | (go_at_call 28; (with_reducible refine (spec_StoreFault.calls k _ _ l0 t655 _ ?side1 ?side2 A3.out).mono ?_); (case side1 => repeat (first | exact (Kd.C_below HR0.out HB.out) | (with_reducible refine Kd.C_alloc ?_ _) | (with_reducible refine Kd.C_drewN ?_ _) | (with_reducible refine Kd.C_drew ?_))); (case side2 => exact HC0.out); rintro e w64 ⟨rfl, hb⟩; have n0_ := zK (blk_below (g := gb654) (o := .cells #[.int .i64 0, .int .i64 0] 38 (0, 0)) (by (with_reducible repeat (first | refine zM ?_ _ | refine zP ?_ | refine zQ ?_ _)); exact BK654.out) hb); have n1_ := zK (below_step (by repeat (first | (with_reducible first | exact HB.out | apply zA | apply zN | apply zD | refine below_set ?_ GE654.out) | exact HB.out)) hb); clear BK654; clear HB; have BK654 := n0_; have HB := n1_; clear n0_ n1_; (try clear hb); (try clear hb2); (try clear hk); (try clear hi); have hcz65_0 : w64.cell? ⟨gb654, 0, none⟩ = some (.int .i64 0) := (blk_cell BK654.out 0).trans rfl; have hcz65_1 : w64.cell? ⟨gb654, 1, none⟩ = some (.int .i64 0) := (blk_cell BK654.out 1).trans rfl; have hfz65_0 := blk_frozen BK654.out 0; have hfz65_1 := blk_frozen BK654.out 1))
 repeat (go_quiet (first | ((with_reducible refine gate_dst (N := 4) rfl ?_); refine box_event ?hg (N := 4) ?hd (cs := #[.int .i64 0, .int .i64 0]) (t := 38) ?hr ?_; (case hd => rfl); (case hg => rfl); (case hr => first | (go_simp; done) | (go_simp; rfl)); intro gb654 hg w63 hbox hb; have n0_ := zK (below_step zq0 hb); have n1_ := zK (hbox); have n2_ := zK ((by rw [hg]; exact (below_size zq0) : w.heap.size ≤ gb654)); have n3_ := zK ((by rw [hg]; exact (below_size zq0) : w.heap.size ≤ gb654)); clear HB; have HB := n0_; have BK654 := n1_; have GW654 := n2_; have GE654 := n3_; clear n0_ n1_ n2_ n3_; clear hb hbox hg) | (go_at_call 28; (with_reducible refine (spec_StoreFault.calls k _ _ l0 t655 _ ?side1 ?side2 A3.out).mono ?_); (case side1 => repeat (first | exact (Kd.C_below HR0.out HB.out) | (with_reducible refine Kd.C_alloc ?_ _) | (with_reducible refine Kd.C_drewN ?_ _) | (with_reducible refine Kd.C_drew ?_))); (case side2 => exact HC0.out); rintro e w64 ⟨rfl, hb⟩; have n0_ := zK (blk_below (g := gb654) (o := .cells #[.int .i64 0, .int .i64 0] 38 (0, 0)) (by (with_reducible repeat (first | refine zM ?_ _ | refine zP ?_ | refine zQ ?_ _)); exact BK654.out) hb); have n1_ := zK (below_step (by repeat (first | (with_reducible first | exact HB.out | apply zA | apply zN | apply zD | refine below_set ?_ GE654.out) | exact HB.out)) hb); clear BK654; clear HB; have BK654 := n0_; have HB := n1_; clear n0_ n1_; (try clear hb); (try clear hb2); (try clear hk); (try clear hi); have hcz65_0 : w64.cell? ⟨gb654, 0, none⟩ = some (.int .i64 0) := (blk_cell BK654.out 0).trans rfl; have hcz65_1 : w64.cell? ⟨gb654, 1, none⟩ = some (.int .i64 0) := (blk_cell BK654.out 1).trans rfl; have hfz65_0 := blk_frozen BK654.out 0; have hfz65_1 := blk_frozen BK654.out 1)); try go_wp2_with (first | ((with_reducible refine gate_dst (N := 4) rfl ?_); refine box_event ?hg (N := 4) ?hd (cs := #[.int .i64 0, .int .i64 0]) (t := 38) ?hr ?_; (case hd => rfl); (case hg => rfl); (case hr => first | (go_simp; done) | (go_simp; rfl)); intro gb654 hg w63 hbox hb; have n0_ := zK (below_step zq0 hb); have n1_ := zK (hbox); have n2_ := zK ((by rw [hg]; exact (below_size zq0) : w.heap.size ≤ gb654)); have n3_ := zK ((by rw [hg]; exact (below_size zq0) : w.heap.size ≤ gb654)); clear HB; have HB := n0_; have BK654 := n1_; have GW654 := n2_; have GE654 := n3_; clear n0_ n1_ n2_ n3_; clear hb hbox hg) | (go_at_call 28; (with_reducible refine (spec_StoreFault.calls k _ _ l0 t655 _ ?side1 ?side2 A3.out).mono ?_); (case side1 => repeat (first | exact (Kd.C_below HR0.out HB.out) | (with_reducible refine Kd.C_alloc ?_ _) | (with_reducible refine Kd.C_drewN ?_ _) | (with_reducible refine Kd.C_drew ?_))); (case side2 => exact HC0.out); rintro e w64 ⟨rfl, hb⟩; have n0_ := zK (blk_below (g := gb654) (o := .cells #[.int .i64 0, .int .i64 0] 38 (0, 0)) (by (with_reducible repeat (first | refine zM ?_ _ | refine zP ?_ | refine zQ ?_ _)); exact BK654.out) hb); have n1_ := zK (below_step (by repeat (first | (with_reducible first | exact HB.out | apply zA | apply zN | apply zD | refine below_set ?_ GE654.out) | exact HB.out)) hb); clear BK654; clear HB; have BK654 := n0_; have HB := n1_; clear n0_ n1_; (try clear hb); (try clear hb2); (try clear hk); (try clear hi); have hcz65_0 : w64.cell? ⟨gb654, 0, none⟩ = some (.int .i64 0) := (blk_cell BK654.out 0).trans rfl; have hcz65_1 : w64.cell? ⟨gb654, 1, none⟩ = some (.int .i64 0) := (blk_cell BK654.out 1).trans rfl; have hfz65_0 := blk_frozen BK654.out 0; have hfz65_1 := blk_frozen BK654.out 1)))
 refine bodyPost_ret (results_cell_row rfl _ _ gb654 38 #[.int .i64 t655, .int .i64 0] (0, 0) _ rfl (by (with_reducible repeat (first | refine zM ?_ _ | refine zP ?_ | refine zQ ?_ _)); refine blk_put (cs := #[.int .i64 t655, .int .i64 0]) ?_ 1 _ rfl; (with_reducible repeat (first | refine zM ?_ _ | refine zP ?_ | refine zQ ?_ _)); refine blk_put (cs := #[.int .i64 0, .int .i64 0]) ?_ 0 _ rfl; (with_reducible repeat (first | refine zM ?_ _ | refine zP ?_ | refine zQ ?_ _)); exact BK654.out) Tryz.underlying38 rfl zq5) rfl ?_
 exact ⟨zq3, (by repeat (first | (with_reducible first | exact HB.out | apply zA | apply zN | apply zD | refine below_set ?_ GE654.out) | exact HB.out))⟩
def impl_reached.f (k : Nat) (l0 : List (S50)) (l1 : List ByteArray) : Option (List ByteArray) := X.reachF k l0 l1
theorem impl_reached.calls (k : Nat) (A0 : Option Addr) (c0 : Nat) (l0 : List (S50)) (A1 : Option Addr) (c1 : Nat) (l1 : List ByteArray) (r : List ByteArray) (w : World) (hr0 : Kd.C k50 w A0 l0.length l0) (hc0 : l0.length ≤ c0) (hr1 : Kd.C Kd.string w A1 l1.length l1) (hc1 : l1.length ≤ c1) (hG : Gt w) (h : impl_reached.f k l0 l1 = some r) :
  Calls Tryz.prog 44 #[.slice A0 l0.length c0, .slice A1 l1.length c1] w fun e w' => ∃ v0_ : Value, e = .returned (v0_) ∧ Kd.R Kd.string 9 w' w.heap.size (fun _ => True) v0_ r ∧ Below w.heap.size w w' := by
 unfold impl_reached.f X.reachF at h
 by_cases hk : (9000000 < k ∧ X.okO l0) ∧ l1.length ≤ 1048576
 ·
  rw [if_pos hk] at h
  obtain ⟨q, hq, rfl⟩ := Option.map_eq_some_iff.1 h
  exact X.reached_calls k A0 c0 l0 A1 c1 l1 (X.cmI l0) w hr0 hc0 hG hr1 hk.2 (X.cmI_all hk.1.2 hk.1.1) q hq
 rw [if_neg hk] at h
 cases h
def impl_historyOf.l0 : Nat → List (S50) → List ByteArray → List ByteArray → Int → Int → Option (List ByteArray × Int)
 | 0, _, _, _, _, _ => none
 | k + 1, x0, x6, x18, x19, x20 => if x20 < x19 then (if 0 ≤ x20 then (if x20 < (x18.length : Int) then ((impl_commitOf.f k x0 (rdOf ByteArray.empty x18 x20)).bind fun bt466 => (if bt466.2.2.2.2 = 0 then (impl_historyOf.l0 k x0 x6 x18 x19 (wrap64 (x20 + 1))) else (some (([] : List ByteArray), bt466.2.2.2.2)))) else (none)) else (none)) else (some (x6, 0))
def impl_historyOf.f (k : Nat) (l0 : List (S50)) (a1 : ByteArray) : Option (List ByteArray × Int) := (impl_reached.f k l0 (([a1] : List ByteArray))).bind fun t462 => (if (t462.length : Int) > 100 then (some (([] : List ByteArray), 2)) else (impl_historyOf.l0 k l0 t462 t462 (t462.length : Int) 0))
set_option maxHeartbeats 8000000 in
set_option maxRecDepth 100000 in
theorem impl_historyOf.calls (k : Nat) (A0 : Option Addr) (c0 : Nat) (l0 : List (S50)) (a1 : ByteArray) (r1 : List ByteArray) (r2 : Int) (w : World) (hr0 : Kd.C k50 w A0 l0.length l0) (hc0 : l0.length ≤ c0) (hG : Gt w) (h : impl_historyOf.f k l0 a1 = some (r1, r2)) :
  Calls Tryz.prog 35 #[.slice A0 l0.length c0, .string a1] w fun e w' => ∃ v0_ : Value, e = .returned (.tuple #[v0_, .int .i64 r2]) ∧ Kd.R Kd.string 9 w' w.heap.size (fun _ => True) v0_ r1 ∧ Below w.heap.size w w' := by
 have HG := zK hG
 clear hG
 have hu60 := Tryz.underlying60
 have HR0 := zK hr0
 have HC0 := zK hc0
 clear hr0 hc0
 have HB := zK (Below.refl w.heap.size w)
 have H : ((impl_reached.f k l0 (([a1] : List ByteArray))).bind fun t462 => (if (t462.length : Int) > 100 then (some (([] : List ByteArray), 2)) else (impl_historyOf.l0 k l0 t462 t462 (t462.length : Int) 0))) = some (r1, r2) := h
 clear h
 obtain ⟨y459, hy459⟩ : ∃ y_ : List ByteArray, y_ = (([a1] : List ByteArray)) := ⟨_, rfl⟩
 replace H : ((impl_reached.f k l0 y459).bind fun t462 => (if (t462.length : Int) > 100 then (some (([] : List ByteArray), 2)) else (impl_historyOf.l0 k l0 t462 t462 (t462.length : Int) 0))) = some (r1, r2) := by first | (rw [hy459]; with_reducible exact H) | (have H2_ := (Option.bind_some _ _).symm.trans H; rw [hy459]; with_reducible exact H2_) | (have H2_ := (Option.bind_some _ _).symm.trans H; with_reducible exact H2_) | with_reducible exact H | (rw [hy459]; exact H) | exact H
 have Ny459 := zK hy459
 clear hy459
 replace H := Option.bind_eq_some_iff.mp H
 obtain ⟨t462, A30, H⟩ := H
 replace H : (if (t462.length : Int) > 100 then (some (([] : List ByteArray), 2)) else (impl_historyOf.l0 k l0 t462 t462 (t462.length : Int) 0)) = some (r1, r2) := H
 have A3 := zK A30
 clear A30
 by_cases c4 : (t462.length : Int) > 100
 ·
  rw [if_pos c4] at H
  have c4b0 : decide (100 < (t462.length : Int)) = true := decide_eq_true c4
  have c4b1 : decide (100 < t462.length) = true := decide_eq_true zq6
  clear c4
  simp only [Option.some.injEq, Prod.mk.injEq] at H
  obtain ⟨rfl, rfl⟩ := H
  go_enter Tryz.func35, Tryz.ntmps35
  go_wp2_with (first | ((with_reducible refine gate_dst (N := 13) rfl ?_); refine Kd.R_lit Kd.string _ 9 ?hg (N := 13) ?hd (xs := ([a1] : List ByteArray)) (inner := [.string a1]) (ok := fun _ => True) (okp := fun _ => True) ?hr ?hp (fun _ hk => hk) trivial (Below.refl _ _) (Nat.le_refl _) zq13 ?_; (case hd => rfl); (case hg => rfl); (case hr => first | (go_simp; done) | (go_simp; rfl)); (case hp => exact (Reps.one (show Kd.M Kd.string _ _ _ a1 [.string a1] from rfl) (Reps.none _ _))); intro v460 w5 ho6 hb hg_ hnew_; clear hg_ hnew_; (first | rw [← Ny459.out] at ho6 | (simp only [Int.reduceToNat] at ho6; rw [← Ny459.out] at ho6)); have n0_ := zK (Kd.R_lower ho6 (below_size zq0)); have n1_ := zK (below_step zq0 hb); clear HB; have HO461 := n0_; have HB := n1_; clear n0_ n1_; clear hb ho6; obtain ⟨Ao7, co7, eo7⟩ := Kd.R_slice HO461.out; subst eo7) | ((with_reducible refine gate_callee (f := 44) rfl ?_); refine goesL_ (some 14) rfl rfl Tryz.func44 zq5 rfl #[.slice A0 l0.length c0, .slice Ao7 y459.length co7] rfl zq1 ?_; (with_reducible refine (impl_reached.calls k _ _ l0 _ _ y459 t462 _ ?side1 ?side2 ?side3 ?side4 (Gt.below HG.out zq0) A3.out).mono ?_); (case side1 => repeat (first | exact (Kd.C_below HR0.out HB.out) | (with_reducible refine Kd.C_alloc ?_ _) | (with_reducible refine Kd.C_drewN ?_ _) | (with_reducible refine Kd.C_drew ?_))); (case side2 => exact HC0.out); (case side3 => repeat (first | exact (Kd.R_reads' HO461.out).2.2 | (with_reducible refine Kd.C_alloc ?_ _) | (with_reducible refine Kd.C_drewN ?_ _) | (with_reducible refine Kd.C_drew ?_))); (case side4 => exact (Kd.R_reads' HO461.out).2.1); rintro e w8 ⟨v463, rfl, ho0, hb⟩; refine ⟨_, rfl, ?_⟩; have n0_ := zK (Kd.R_elder' zq23 (Kd.R_base ho0) hb); have n1_ := zK (Kd.R_lower (Kd.R_new' ho0 (Kd.R_lt zq23)) (below_size zq0)); have n2_ := zK (below_step zq0 hb); clear HO461; clear HB; have HO461 := n0_; have HO464 := n1_; have HB := n2_; clear n0_ n1_ n2_; (try clear hb); (try clear hb2); (try clear hk); (try clear hi); (try clear ho0); obtain ⟨Ao9, co9, eo9⟩ := Kd.R_slice HO464.out; subst eo9))
  go_ret2
  exact ⟨_, zq3, zq12, zq0⟩
 rw [if_neg c4] at H
 have c4b0 : decide (100 < (t462.length : Int)) = false := decide_eq_false c4
 have c4b1 : decide (100 < t462.length) = false := decide_eq_false zq6
 clear c4
 have H' := zK H
 clear H
 go_enter Tryz.func35, Tryz.ntmps35
 go_wp2_with (first | ((with_reducible refine gate_dst (N := 13) rfl ?_); refine Kd.R_lit Kd.string _ 9 ?hg (N := 13) ?hd (xs := ([a1] : List ByteArray)) (inner := [.string a1]) (ok := fun _ => True) (okp := fun _ => True) ?hr ?hp (fun _ hk => hk) trivial (Below.refl _ _) (Nat.le_refl _) zq13 ?_; (case hd => rfl); (case hg => rfl); (case hr => first | (go_simp; done) | (go_simp; rfl)); (case hp => exact (Reps.one (show Kd.M Kd.string _ _ _ a1 [.string a1] from rfl) (Reps.none _ _))); intro v460 w10 ho11 hb hg_ hnew_; clear hg_ hnew_; (first | rw [← Ny459.out] at ho11 | (simp only [Int.reduceToNat] at ho11; rw [← Ny459.out] at ho11)); have n0_ := zK (Kd.R_lower ho11 (below_size zq0)); have n1_ := zK (below_step zq0 hb); clear HB; have HO461 := n0_; have HB := n1_; clear n0_ n1_; clear hb ho11; obtain ⟨Ao12, co12, eo12⟩ := Kd.R_slice HO461.out; subst eo12) | ((with_reducible refine gate_callee (f := 44) rfl ?_); refine goesL_ (some 14) rfl rfl Tryz.func44 zq5 rfl #[.slice A0 l0.length c0, .slice Ao12 y459.length co12] rfl zq1 ?_; (with_reducible refine (impl_reached.calls k _ _ l0 _ _ y459 t462 _ ?side1 ?side2 ?side3 ?side4 (Gt.below HG.out zq0) A3.out).mono ?_); (case side1 => repeat (first | exact (Kd.C_below HR0.out HB.out) | (with_reducible refine Kd.C_alloc ?_ _) | (with_reducible refine Kd.C_drewN ?_ _) | (with_reducible refine Kd.C_drew ?_))); (case side2 => exact HC0.out); (case side3 => repeat (first | exact (Kd.R_reads' HO461.out).2.2 | (with_reducible refine Kd.C_alloc ?_ _) | (with_reducible refine Kd.C_drewN ?_ _) | (with_reducible refine Kd.C_drew ?_))); (case side4 => exact (Kd.R_reads' HO461.out).2.1); rintro e w13 ⟨v463, rfl, ho0, hb⟩; refine ⟨_, rfl, ?_⟩; have n0_ := zK (Kd.R_elder' zq23 (Kd.R_base ho0) hb); have n1_ := zK (Kd.R_lower (Kd.R_new' ho0 (Kd.R_lt zq23)) (below_size zq0)); have n2_ := zK (below_step zq0 hb); clear HO461; clear HB; have HO461 := n0_; have HO464 := n1_; have HB := n2_; clear n0_ n1_ n2_; (try clear hb); (try clear hb2); (try clear hk); (try clear hi); (try clear ho0); obtain ⟨Ao14, co14, eo14⟩ := Kd.R_slice HO464.out; subst eo14))
 go_loopg [20] k (fun kq v20 w' => ∃ (x20_1 : Int), v20 = .int .i64 x20_1 ∧ Aside0 (impl_historyOf.l0 kq l0 t462 t462 (t462.length : Int) x20_1 = some (r1, r2)) ∧ Aside0 (kq ≤ k) ∧ Aside0 (Kd.R Kd.string 9 w' w.heap.size (fun _ => True) (.slice Ao14 t462.length co14) t462) ∧ Aside0 (Kd.R Kd.string 9 w' w.heap.size (fun _ => True) (.slice Ao14 t462.length co14) t462) ∧ Aside0 (Below w.heap.size w w'))
 case atStart => exact ⟨(0), zq4, H', ⟨Nat.le_refl _⟩, ⟨by (with_reducible repeat (first | apply zR | apply zV | apply zW)); exact Kd.R_mono HO464.out (fun _ hk => trivial)⟩, ⟨by (with_reducible repeat (first | apply zR | apply zV | apply zW)); exact Kd.R_mono HO464.out (fun _ hk => trivial)⟩, ⟨by repeat (first | (with_reducible first | exact HB.out | apply zA | apply zN | apply zD) | exact HB.out)⟩⟩
 case round =>
  clear H'
  try clear p2
  try clear c3
  try clear c4
  try clear c4b0
  try clear c4b1
  obtain ⟨x20_1, rfl, HA, HK1, HO_6, HO_18, HB⟩ := hrel
  cases gk with
  | zero => exact absurd HA.out (by simp [impl_historyOf.l0])
  | succ k1 =>
   have H := HA.out
   clear HA
   simp only [impl_historyOf.l0] at H
   by_cases c15 : x20_1 < (t462.length : Int)
   ·
    rw [if_pos c15] at H
    have c15b0 : decide (x20_1 < (t462.length : Int)) = true := decide_eq_true c15
    clear c15
    by_cases c16 : 0 ≤ x20_1
    ·
     rw [if_pos c16] at H
     have c16b0 : decide (0 ≤ x20_1) = true := decide_eq_true c16
     clear c16
     by_cases c17 : x20_1 < (t462.length : Int)
     ·
      rw [if_pos c17] at H
      have c17b0 : decide (x20_1 < (t462.length : Int)) = true := decide_eq_true c17
      clear c17
      replace H := Option.bind_eq_some_iff.mp H
      obtain ⟨⟨t466, t467, t470, t471, t472⟩, A180, H⟩ := H
      replace H : (if t472 = 0 then (impl_historyOf.l0 k1 l0 t462 t462 (t462.length : Int) (wrap64 (x20_1 + 1))) else (some (([] : List ByteArray), t472))) = some (r1, r2) := H
      have A18 := zK A180
      clear A180
      by_cases c19 : t472 = 0
      ·
       rw [if_pos c19] at H
       have c19b0 : (t472 == 0) = true := beq_iff_eq.mpr c19
       have c19b1 : (t472 != 0) = false := bne_eq_false_iff_eq.mpr c19
       clear c19
       have H' := zK H
       clear H
       have p465 : 0 ≤ (x20_1 : Int) := zX zq2
       have q465 : x20_1 < (t462.length : Int) := zX zq2
       obtain ⟨ad465, e465, hx465_0⟩ := Kd.at_string (Kd.R_reads' HO_18.out).2.2 x20_1 p465 q465
       cases e465
       replace p465 := eq_true p465
       replace q465 := eq_true q465
       go_wp2_with (first | ((with_reducible refine gate_callee (f := 42) rfl ?_); refine goesL_ (some 27) rfl rfl Tryz.func42 zq5 rfl #[.slice A0 l0.length c0, .string (rdOf ByteArray.empty t462 x20_1)] rfl zq1 ?_; (with_reducible refine (impl_commitOf.calls k1 _ _ l0 (rdOf ByteArray.empty t462 x20_1) t466 t467 t470 t471 t472 _ ?side1 ?side2 (Gt.below HG.out zq0) A18.out).mono ?_); (case side1 => repeat (first | exact (Kd.C_below HR0.out HB.out) | (with_reducible refine Kd.C_alloc ?_ _) | (with_reducible refine Kd.C_drewN ?_ _) | (with_reducible refine Kd.C_drew ?_))); (case side2 => exact HC0.out); rintro e w20 ⟨v468, rfl, ho0, hb⟩; refine ⟨_, rfl, ?_⟩; have n0_ := zK (Kd.R_elder' zq9 (Kd.R_base ho0) hb); have n1_ := zK (Kd.R_elder' zq15 (Kd.R_base ho0) hb); have n2_ := zK (Kd.R_lower (Kd.R_new' (Kd.R_new' ho0 (Kd.R_lt zq9)) (Kd.R_lt zq15)) (below_size zq0)); have n3_ := zK (below_step zq0 hb); clear HO_6; clear HO_18; clear HB; have HO_6 := n0_; have HO_18 := n1_; have HO469 := n2_; have HB := n3_; clear n0_ n1_ n2_ n3_; (try clear hb); (try clear hb2); (try clear hk); (try clear hi); (try clear ho0)) | ((with_reducible refine gate_dst (N := 9) rfl ?_); refine box_event ?hg (N := 9) ?hd (cs := #[.string (⟨#[]⟩ : ByteArray), .slice none 0 0, .int .i64 0, .string (⟨#[]⟩ : ByteArray)]) (t := 60) ?hr ?_; (case hd => rfl); (case hg => rfl); (case hr => first | (go_simp; done) | (go_simp; rfl)); intro gb473 hg w21 hbox hb; have n0_ := zK (Kd.R_below zq9 hb); have n1_ := zK (Kd.R_below zq15 hb); have n2_ := zK (Kd.R_below (by (with_reducible repeat (first | apply zR | apply zV | apply zW)); exact HO469.out) hb); have n3_ := zK (below_step zq0 hb); have n4_ := zK (hbox); have n5_ := zK ((by rw [hg]; exact (below_size zq0) : w.heap.size ≤ gb473)); have n6_ := zK ((by rw [hg]; exact (below_size zq0) : w.heap.size ≤ gb473)); clear HO_6; clear HO_18; clear HO469; clear HB; have HO_6 := n0_; have HO_18 := n1_; have HO469 := n2_; have HB := n3_; have BK473 := n4_; have GW473 := n5_; have GE473 := n6_; clear n0_ n1_ n2_ n3_ n4_ n5_ n6_; clear hb hbox hg; have hcz22_0 : w21.cell? ⟨gb473, 0, none⟩ = some (.string (⟨#[]⟩ : ByteArray)) := (blk_cell BK473.out 0).trans rfl; have hcz22_1 : w21.cell? ⟨gb473, 1, none⟩ = some (.slice none 0 0) := (blk_cell BK473.out 1).trans rfl; have hcz22_2 : w21.cell? ⟨gb473, 2, none⟩ = some (.int .i64 0) := (blk_cell BK473.out 2).trans rfl; have hcz22_3 : w21.cell? ⟨gb473, 3, none⟩ = some (.string (⟨#[]⟩ : ByteArray)) := (blk_cell BK473.out 3).trans rfl; have hfz22_0 := blk_frozen BK473.out 0; have hfz22_1 := blk_frozen BK473.out 1; have hfz22_2 := blk_frozen BK473.out 2; have hfz22_3 := blk_frozen BK473.out 3; obtain ⟨Ao23, co23, eo23⟩ := Kd.R_slice HO469.out; subst eo23))
       go_roundg k1
       case measure => have := HK1.out; omega
       case rel => exact ⟨(wrap64 (x20_1 + 1)), zq4, H', ⟨by have := HK1.out; omega⟩, ⟨by (with_reducible repeat (first | apply zR | apply zV | apply zW)); exact Kd.R_mono (Kd.R_far (p := ⟨gb473, 3, none⟩) (Kd.R_far (p := ⟨gb473, 2, none⟩) (Kd.R_far (p := ⟨gb473, 1, none⟩) (Kd.R_far (p := ⟨gb473, 0, none⟩) (Kd.R_types HO_6.out BK473.out zq10) (fun _ hk => hk.2) (.string t466)) (fun _ hk => hk.2) (.slice Ao23 t467.length co23)) (fun _ hk => hk.2) (.int .i64 t470)) (fun _ hk => hk.2) (.string t471)) (fun _ hk => trivial)⟩, ⟨by (with_reducible repeat (first | apply zR | apply zV | apply zW)); exact Kd.R_mono (Kd.R_far (p := ⟨gb473, 3, none⟩) (Kd.R_far (p := ⟨gb473, 2, none⟩) (Kd.R_far (p := ⟨gb473, 1, none⟩) (Kd.R_far (p := ⟨gb473, 0, none⟩) (Kd.R_types HO_18.out BK473.out zq10) (fun _ hk => hk.2) (.string t466)) (fun _ hk => hk.2) (.slice Ao23 t467.length co23)) (fun _ hk => hk.2) (.int .i64 t470)) (fun _ hk => hk.2) (.string t471)) (fun _ hk => trivial)⟩, ⟨by repeat (first | (with_reducible first | exact HB.out | apply zA | apply zN | apply zD | refine below_set ?_ GE473.out) | exact HB.out)⟩⟩
      rw [if_neg c19] at H
      have c19b0 : (t472 == 0) = false := beq_eq_false_iff_ne.mpr c19
      have c19b1 : (t472 != 0) = true := bne_iff_ne.mpr c19
      simp only [Option.some.injEq, Prod.mk.injEq] at H
      obtain ⟨rfl, rfl⟩ := H
      have p465 : 0 ≤ (x20_1 : Int) := zX zq2
      have q465 : x20_1 < (t462.length : Int) := zX zq2
      obtain ⟨ad465, e465, hx465_0⟩ := Kd.at_string (Kd.R_reads' HO_18.out).2.2 x20_1 p465 q465
      cases e465
      replace p465 := eq_true p465
      replace q465 := eq_true q465
      go_wp2_with (first | ((with_reducible refine gate_callee (f := 42) rfl ?_); refine goesL_ (some 27) rfl rfl Tryz.func42 zq5 rfl #[.slice A0 l0.length c0, .string (rdOf ByteArray.empty t462 x20_1)] rfl zq1 ?_; (with_reducible refine (impl_commitOf.calls k1 _ _ l0 (rdOf ByteArray.empty t462 x20_1) t466 t467 t470 t471 t472 _ ?side1 ?side2 (Gt.below HG.out zq0) A18.out).mono ?_); (case side1 => repeat (first | exact (Kd.C_below HR0.out HB.out) | (with_reducible refine Kd.C_alloc ?_ _) | (with_reducible refine Kd.C_drewN ?_ _) | (with_reducible refine Kd.C_drew ?_))); (case side2 => exact HC0.out); rintro e w24 ⟨v468, rfl, ho0, hb⟩; refine ⟨_, rfl, ?_⟩; have n0_ := zK (Kd.R_elder' zq9 (Kd.R_base ho0) hb); have n1_ := zK (Kd.R_elder' zq15 (Kd.R_base ho0) hb); have n2_ := zK (Kd.R_lower (Kd.R_new' (Kd.R_new' ho0 (Kd.R_lt zq9)) (Kd.R_lt zq15)) (below_size zq0)); have n3_ := zK (below_step zq0 hb); clear HO_6; clear HO_18; clear HB; have HO_6 := n0_; have HO_18 := n1_; have HO469 := n2_; have HB := n3_; clear n0_ n1_ n2_ n3_; (try clear hb); (try clear hb2); (try clear hk); (try clear hi); (try clear ho0)) | ((with_reducible refine gate_dst (N := 9) rfl ?_); refine box_event ?hg (N := 9) ?hd (cs := #[.string (⟨#[]⟩ : ByteArray), .slice none 0 0, .int .i64 0, .string (⟨#[]⟩ : ByteArray)]) (t := 60) ?hr ?_; (case hd => rfl); (case hg => rfl); (case hr => first | (go_simp; done) | (go_simp; rfl)); intro gb473 hg w25 hbox hb; have n0_ := zK (Kd.R_below zq9 hb); have n1_ := zK (Kd.R_below zq15 hb); have n2_ := zK (Kd.R_below (by (with_reducible repeat (first | apply zR | apply zV | apply zW)); exact HO469.out) hb); have n3_ := zK (below_step zq0 hb); have n4_ := zK (hbox); have n5_ := zK ((by rw [hg]; exact (below_size zq0) : w.heap.size ≤ gb473)); have n6_ := zK ((by rw [hg]; exact (below_size zq0) : w.heap.size ≤ gb473)); clear HO_6; clear HO_18; clear HO469; clear HB; have HO_6 := n0_; have HO_18 := n1_; have HO469 := n2_; have HB := n3_; have BK473 := n4_; have GW473 := n5_; have GE473 := n6_; clear n0_ n1_ n2_ n3_ n4_ n5_ n6_; clear hb hbox hg; have hcz26_0 : w25.cell? ⟨gb473, 0, none⟩ = some (.string (⟨#[]⟩ : ByteArray)) := (blk_cell BK473.out 0).trans rfl; have hcz26_1 : w25.cell? ⟨gb473, 1, none⟩ = some (.slice none 0 0) := (blk_cell BK473.out 1).trans rfl; have hcz26_2 : w25.cell? ⟨gb473, 2, none⟩ = some (.int .i64 0) := (blk_cell BK473.out 2).trans rfl; have hcz26_3 : w25.cell? ⟨gb473, 3, none⟩ = some (.string (⟨#[]⟩ : ByteArray)) := (blk_cell BK473.out 3).trans rfl; have hfz26_0 := blk_frozen BK473.out 0; have hfz26_1 := blk_frozen BK473.out 1; have hfz26_2 := blk_frozen BK473.out 2; have hfz26_3 := blk_frozen BK473.out 3; obtain ⟨Ao27, co27, eo27⟩ := Kd.R_slice HO469.out; subst eo27))
      go_ret2
      exact ⟨_, zq3, zq12, (by repeat (first | (with_reducible first | exact HB.out | apply zA | apply zN | apply zD | refine below_set ?_ GE473.out) | exact HB.out))⟩
     rw [if_neg c17] at H
     exact absurd H zq13
    rw [if_neg c16] at H
    exact absurd H zq13
   rw [if_neg c15] at H
   have c15b0 : decide (x20_1 < (t462.length : Int)) = false := decide_eq_false c15
   clear c15
   simp only [Option.some.injEq, Prod.mk.injEq] at H
   obtain ⟨rfl, rfl⟩ := H
   go_wp2
   go_ret2
   exact ⟨_, zq3, zq9, zq0⟩
end Go.Proofs.YtpnoghcdfbmpoaaGreatDoor.PX

namespace Go.Proofs.YtpnoghcdfbmpoaaGreatDoor.PX.X
open Go Go.RowKit Go.Lib Go.Proofs.YtpnoghcdfbmpoaaGreatDoorW.PrintWords Go.Proofs.YtpnoghcdfbmpoaaGreatDoor.PX
set_option linter.unusedVariables false
set_option linter.unusedSimpArgs false
set_option maxHeartbeats 4000000 in
set_option maxRecDepth 100000 in
theorem gen_store (k : Nat) (A0 : Option Addr) (c0 : Nat) (l0 : List S50) (id : ByteArray) (st : Int) (w : World) (hr0 : Kd.C k50 w A0 l0.length l0) (hc0 : l0.length ≤ c0) (hG : Gt w) (hst : impl_StoreFault.f k l0 = some st) (hz : ¬ st = 0) :
 Calls Tryz.prog 20 #[.slice A0 l0.length c0, .string id] w fun e w' => e = .returned (.agg #[.int .i64 st, .int .i64 0]) ∧ Below w.heap.size w w' := by
 have HST := Lib.hid (fun (W : World) (hw : Below w.heap.size w W) => impl_StoreFault.calls k A0 c0 l0 st W (Kd.C_below hr0 hw) hc0 (hG.below hw) hst)
 have z1 : (st == 0) = false := beq_eq_false_iff_ne.mpr hz
 have z2 : (st != 0) = true := bne_iff_ne.mpr hz
 clear hr0 hc0 hG hst hz
 go_enter Tryz.func20, Tryz.ntmps20
 go_wp2_with (first
  | ((with_reducible refine gate_dst (N := 4) rfl ?_); refine box_event ?hg (N := 4) ?hd (cs := #[.int .i64 0, .int .i64 0]) (t := 38) ?hr ?_; (case hd => rfl); (case hg => rfl); (case hr => first | (go_simp; done) | (go_simp; rfl)); intro gr hgr w1 hbox hb1; have HRB := Lib.hid hbox; have HB1 := Lib.hid hb1; have HGR := Lib.hid hgr; clear hbox hb1 hgr)
  | (go_at_call 31; (with_reducible refine (HST.out w1 HB1.out).mono ?_); rintro e w2 ⟨rfl, hb2⟩; have hrr := blk_below HRB.out hb2; have z3 : w2.cell? ⟨gr, 0, none⟩ = some (.int .i64 0) := (blk_cell hrr 0).trans rfl; have z4 : w2.cell? ⟨gr, 1, none⟩ = some (.int .i64 0) := (blk_cell hrr 1).trans rfl; have f0 := blk_frozen hrr 0; have f1 := blk_frozen hrr 1; have R9 := Lib.hid hrr; have HB2 := Lib.hid hb2; clear hb2 hrr))
 have hgr : w.heap.size ≤ gr := Nat.le_of_eq HGR.out.symm
 refine bodyPost_ret (results_cell_row rfl _ _ gr 38 #[.int .i64 st, .int .i64 0] (0, 0) _ rfl (blk_set (blk_set R9.out 0 (.int .i64 st)) 1 (.int .i64 0)) Tryz.underlying38 rfl zq5) rfl ?_
 exact ⟨rfl, below_set (below_set (HB1.out.trans (HB2.out.mono HB1.out.size)) hgr) hgr⟩
set_option maxHeartbeats 4000000 in
set_option maxRecDepth 100000 in
theorem gen_hist (k : Nat) (A0 : Option Addr) (c0 : Nat) (l0 : List S50) (id : ByteArray) (X : List ByteArray) (c : Int) (w : World) (hr0 : Kd.C k50 w A0 l0.length l0) (hc0 : l0.length ≤ c0) (hG : Gt w) (hst : impl_StoreFault.f k l0 = some 0) (hx : impl_historyOf.f k l0 id = some (X, c)) (hz : ¬ c = 0) :
 Calls Tryz.prog 20 #[.slice A0 l0.length c0, .string id] w fun e w' => e = .returned (.agg #[.int .i64 c, .int .i64 0]) ∧ Below w.heap.size w w' := by
 have HST := Lib.hid (fun (W : World) (hw : Below w.heap.size w W) => impl_StoreFault.calls k A0 c0 l0 0 W (Kd.C_below hr0 hw) hc0 (hG.below hw) hst)
 have HX := Lib.hid (fun (W : World) (hw : Below w.heap.size w W) => impl_historyOf.calls k A0 c0 l0 id X c W (Kd.C_below hr0 hw) hc0 (hG.below hw) hx)
 have z1 : (c == 0) = false := beq_eq_false_iff_ne.mpr hz
 have z2 : (c != 0) = true := bne_iff_ne.mpr hz
 clear hr0 hc0 hG hst hz hx
 go_enter Tryz.func20, Tryz.ntmps20
 go_wp2_with (first
  | ((with_reducible refine gate_dst (N := 4) rfl ?_); refine box_event ?hg (N := 4) ?hd (cs := #[.int .i64 0, .int .i64 0]) (t := 38) ?hr ?_; (case hd => rfl); (case hg => rfl); (case hr => first | (go_simp; done) | (go_simp; rfl)); intro gr hgr w1 hbox hb1; have HRB := Lib.hid hbox; have HB1 := Lib.hid hb1; have HGR := Lib.hid hgr; clear hbox hb1 hgr)
  | (go_at_call 31; (with_reducible refine (HST.out w1 HB1.out).mono ?_); rintro e w2 ⟨rfl, hb2⟩; have HB2 := Lib.hid hb2; have B2 := Lib.hid (HB1.out.trans (hb2.mono HB1.out.size)); clear hb2)
  | (go_at_call 35; (with_reducible refine (HX.out w2 B2.out).mono ?_); rintro e w3 ⟨v3, rfl, hoo_, hbb_⟩; obtain ⟨A3, c3, rfl⟩ := Kd.R_slice hoo_; have hrr := blk_below (blk_below HRB.out HB2.out) hbb_; have z3 : w3.cell? ⟨gr, 0, none⟩ = some (.int .i64 0) := (blk_cell hrr 0).trans rfl; have z4 : w3.cell? ⟨gr, 1, none⟩ = some (.int .i64 0) := (blk_cell hrr 1).trans rfl; have f0 := blk_frozen hrr 0; have f1 := blk_frozen hrr 1; have R9 := Lib.hid hrr; have B3 := Lib.hid (B2.out.trans (hbb_.mono B2.out.size)); clear hoo_ hbb_ hrr))
 have hgr : w.heap.size ≤ gr := Nat.le_of_eq HGR.out.symm
 refine bodyPost_ret (results_cell_row rfl _ _ gr 38 #[.int .i64 c, .int .i64 0] (0, 0) _ rfl (blk_set (blk_set R9.out 0 (.int .i64 c)) 1 (.int .i64 0)) Tryz.underlying38 rfl zq5) rfl ?_
 exact ⟨rfl, below_set (below_set B3.out hgr) hgr⟩
set_option maxHeartbeats 4000000 in
set_option maxRecDepth 100000 in
theorem gen_main (k : Nat) (A0 : Option Addr) (c0 : Nat) (l0 : List S50) (id : ByteArray) (X : List ByteArray) (cm : ByteArray → CmR) (re : ByteArray → List ByteArray) (cy : ByteArray → Bool) (kq : Nat) (r1 r2 : Int) (w : World) (hr0 : Kd.C k50 w A0 l0.length l0) (hc0 : l0.length ≤ c0) (hG : Gt w) (hst : impl_StoreFault.f k l0 = some 0) (hx : impl_historyOf.f k l0 id = some (X, 0)) (hX : X.length ≤ 1048576)
 (hcm : ∀ x, impl_commitOf.f k l0 x = some (cm x)) (hre : ∀ x ∈ X, impl_reached.f k l0 (parsC (cm x)) = some (re x)) (hcy : ∀ x ∈ X, slices_Contains_string_string.f k (re x) x = some (cy x))
 (hr : (X.any cy = true ∧ r1 = 1 ∧ r2 = 0) ∨ (X.any cy = false ∧ r1 = 0 ∧ ∃ Mf, longI cm kq [] id = some (r2, Mf))) :
 Calls Tryz.prog 20 #[.slice A0 l0.length c0, .string id] w fun e w' => e = .returned (.agg #[.int .i64 r1, .int .i64 r2]) ∧ Below w.heap.size w w' := by
 have HST := Lib.hid (fun (W : World) (hw : Below w.heap.size w W) => impl_StoreFault.calls k A0 c0 l0 0 W (Kd.C_below hr0 hw) hc0 (hG.below hw) hst)
 have HX := Lib.hid (fun (W : World) (hw : Below w.heap.size w W) => impl_historyOf.calls k A0 c0 l0 id X 0 W (Kd.C_below hr0 hw) hc0 (hG.below hw) hx)
 have HCM := Lib.hid (fun x (W : World) (hw : Below w.heap.size w W) => impl_commitOf.calls k A0 c0 l0 x (cm x).1 (cm x).2.1 (cm x).2.2.1 (cm x).2.2.2.1 (cm x).2.2.2.2 W (Kd.C_below hr0 hw) hc0 (hG.below hw) (hcm x))
 have HRE := Lib.hid (fun x (hx : x ∈ X) (A1 : Option Addr) (c1 : Nat) (W : World) (hw : Below w.heap.size w W) (hr1 : Kd.C Kd.string W A1 (parsC (cm x)).length (parsC (cm x))) (hc1 : (parsC (cm x)).length ≤ c1) => impl_reached.calls k A0 c0 l0 A1 c1 (parsC (cm x)) (re x) W (Kd.C_below hr0 hw) hc0 hr1 hc1 (hG.below hw) (hre x hx))
 have HCY := Lib.hid (fun x (hx : x ∈ X) (A1 : Option Addr) (c1 : Nat) (W : World) (hr1 : Kd.C Kd.string W A1 (re x).length (re x)) (hc1 : (re x).length ≤ c1) => slices_Contains_string_string.calls k A1 c1 (re x) x (cy x) W hr1 hc1 (hcy x hx))
 have HLO := Lib.hid (fun (n : Int) Mf (h : longI cm kq [] id = some (n, Mf)) (W : World) (hw : Below w.heap.size w W) => longest_calls k A0 c0 l0 cm w hr0 hc0 hG hcm kq [] id n Mf (W.alloc (.map #[] 0)) W.heap.size (below_alloc hw _) hw.size (known_new W) h)
 have HR := Lib.hid hr
 clear hr0 hc0 hG hst hx hcm hre hcy hr
 have hu := Tryz.underlying60
 have hmm := @run_makeMap Tryz.prog
 go_enter Tryz.func20, Tryz.ntmps20
 go_wp2_with (first
  | ((with_reducible refine gate_dst (N := 4) rfl ?_); refine box_event ?hg (N := 4) ?hd (cs := #[.int .i64 0, .int .i64 0]) (t := 38) ?hr ?_; (case hd => rfl); (case hg => rfl); (case hr => first | (go_simp; done) | (go_simp; rfl)); intro gr hgr w1 hbox hb1; have HRB := Lib.hid hbox; have HB1 := Lib.hid hb1; have HGR := Lib.hid hgr; clear hbox hb1 hgr)
  | (go_at_call 31; (with_reducible refine (HST.out w1 HB1.out).mono ?_); rintro e w2 ⟨rfl, hb2⟩; have HB2 := Lib.hid hb2; have B2 := Lib.hid (HB1.out.trans (hb2.mono HB1.out.size)); clear hb2)
  | (go_at_call 35; (with_reducible refine (HX.out w2 B2.out).mono ?_); rintro e w3 ⟨v3, rfl, hoo_, hbb_⟩; obtain ⟨A3, c3, rfl⟩ := Kd.R_slice hoo_; have C3 := Lib.hid (Kd.R_reads' hoo_).2.2; have B13 := Lib.hid (HB2.out.trans (hbb_.mono HB2.out.size)); clear hoo_ hbb_))
 clear HST HX B2 HB2
 go_loopg [30] X.length (fun gg s30 wr => ∃ i : Nat, s30 = .int .i64 i ∧ i ≤ X.length ∧ X.length - i ≤ gg ∧ Aside ((X.take i).any cy = false) ∧ Aside (Below w1.heap.size w1 wr) ∧ Aside (Kd.C Kd.string wr A3 X.length X))
 case atStart => exact ⟨0, rfl, Nat.zero_le _, by omega, rfl, B13.out, C3.out⟩
 case round =>
  clear B13 C3
  rename World => wq
  obtain ⟨i, rfl, hi, hgg, HN, BQ, CX⟩ := hrel
  have B0 := Lib.hid (HB1.out.trans (BQ.out.mono HB1.out.size))
  by_cases hlt : i < X.length
  · have hiz : (0 : Int) ≤ (i : Int) := Int.natCast_nonneg i
    have hil : (i : Int) < (X.length : Int) := by omega
    obtain ⟨ad, hA, q0⟩ := Kd.at_string CX.out (i : Int) hiz hil
    subst hA
    rw [rdS, Int.toNat_natCast] at q0
    have hmem : X.getD i ByteArray.empty ∈ X := by
     rw [List.getD_eq_getElem?_getD, List.getElem?_eq_getElem hlt, Option.getD_some]
     exact List.getElem_mem hlt
    have htk : (X.take (i + 1)).any cy = ((X.take i).any cy || cy (X.getD i ByteArray.empty)) := by
     rw [List.take_succ_eq_append_getElem hlt, List.any_append, List.any_cons, List.any_nil, Bool.or_false, List.getD_eq_getElem?_getD, List.getElem?_eq_getElem hlt, Option.getD_some]
    rw [HN.out, Bool.false_or] at htk
    generalize X.getD i ByteArray.empty = x at q0 hmem htk
    have HCX := Lib.hid (HCM.out x wq B0.out)
    have HRX := Lib.hid (HRE.out x hmem)
    have HYX := Lib.hid (HCY.out x hmem)
    have HTK := Lib.hid htk
    have HANY := Lib.hid (fun h : cy x = true => (List.any_eq_true.2 ⟨x, hmem, h⟩ : X.any cy = true))
    clear htk hmem HN
    have hps : parsC (cm x) = (cm x).2.1 := rfl
    rw [hps] at HRX
    clear hps
    generalize cm x = y at HCX HRX
    obtain ⟨y1, ps, y3, y4, y5⟩ := y
    simp only at HCX HRX
    generalize re x = rx at HRX HYX
    cases hcyx : cy x with
    | true =>
      rw [hcyx] at HYX
      have HE := Lib.hid (HANY.out hcyx)
      clear HTK HANY hcyx
      go_wp2_with (first
       | (go_at_call 42; (with_reducible refine HCX.out.mono ?_); rintro e w5 ⟨v5, rfl, hoo_, hbb_⟩; obtain ⟨A5, c5, rfl⟩ := Kd.R_slice hoo_; have O5 := Lib.hid hoo_; have B5 := Lib.hid hbb_; clear hoo_ hbb_)
       | ((with_reducible refine gate_dst (N := 10) rfl ?_); refine box_event ?hg (N := 10) ?hd (cs := #[.string (⟨#[]⟩ : ByteArray), .slice none 0 0, .int .i64 0, .string (⟨#[]⟩ : ByteArray)]) (t := 60) ?hr ?_; (case hd => rfl); (case hg => rfl); (case hr => first | (go_simp; done) | (go_simp; rfl)); intro gb hgb w6 hbox hb6; have HBX := Lib.hid hbox; have B6 := Lib.hid hb6; have HGB := Lib.hid hgb; have y0 := (blk_cell hbox 0).trans rfl; have y1' := (blk_cell hbox 1).trans rfl; have y2 := (blk_cell hbox 2).trans rfl; have y3' := (blk_cell hbox 3).trans rfl; have f0 := blk_frozen hbox 0; have f1 := blk_frozen hbox 1; have f2 := blk_frozen hbox 2; have f3 := blk_frozen hbox 3; clear hbox hb6 hgb)
       | (go_at_call 44; (have hgb : w5.heap.size ≤ gb := Nat.le_of_eq HGB.out.symm); (have hb57 : Below w5.heap.size w5 ((((w6.setCell ⟨gb, 0, none⟩ (.string y1)).setCell ⟨gb, 1, none⟩ (.slice A5 ps.length c5)).setCell ⟨gb, 2, none⟩ (.int .i64 y3)).setCell ⟨gb, 3, none⟩ (.string y4)) := below_set (below_set (below_set (below_set B6.out hgb) hgb) hgb) hgb); (generalize ((((w6.setCell ⟨gb, 0, none⟩ (.string y1)).setCell ⟨gb, 1, none⟩ (.slice A5 ps.length c5)).setCell ⟨gb, 2, none⟩ (.int .i64 y3)).setCell ⟨gb, 3, none⟩ (.string y4)) = w7 at hb57 ⊢); (have b7 := B5.out.trans (hb57.mono B5.out.size)); (have o7 := Kd.R_below O5.out hb57); (with_reducible refine (HRX.out A5 c5 w7 (B0.out.trans (b7.mono B0.out.size)) (Kd.R_reads' o7).2.2 (Kd.R_reads' o7).2.1).mono ?_); rintro e w8 ⟨v8, rfl, hoo_, hbb_⟩; obtain ⟨A8, c8, rfl⟩ := Kd.R_slice hoo_; have O8 := Lib.hid hoo_; have B8 := Lib.hid (BQ.out.trans ((b7.trans (hbb_.mono b7.size)).mono BQ.out.size)); clear hoo_ hbb_ o7 b7 hb57 hgb)
       | (go_at_call 43; (with_reducible refine (HYX.out A8 c8 w8 (Kd.R_reads' O8.out).2.2 (Kd.R_reads' O8.out).2.1).mono ?_); rintro e w9 ⟨rfl, hd_⟩; have b9 := B8.out.trans (hd_.below.mono B8.out.size); have hrr := blk_below HRB.out b9; have z3 : w9.cell? ⟨gr, 0, none⟩ = some (.int .i64 0) := (blk_cell hrr 0).trans rfl; have z4 : w9.cell? ⟨gr, 1, none⟩ = some (.int .i64 0) := (blk_cell hrr 1).trans rfl; have fa := blk_frozen hrr 0; have fb := blk_frozen hrr 1; have R9 := Lib.hid hrr; have B9 := Lib.hid b9; clear hd_ b9 hrr))
      have hgr : w.heap.size ≤ gr := Nat.le_of_eq HGR.out.symm
      obtain ⟨hr1, hr2⟩ : r1 = 1 ∧ r2 = 0 := by
       rcases HR.out with h | h
       · exact h.2
       · rw [HE.out] at h
         exact absurd h.1 zq10
      subst hr1 hr2
      refine bodyPost_ret (results_cell_row rfl _ _ gr 38 #[.int .i64 1, .int .i64 0] (0, 0) _ rfl (blk_set (blk_set R9.out 0 (.int .i64 1)) 1 (.int .i64 0)) Tryz.underlying38 rfl zq5) rfl ?_
      exact ⟨rfl, below_set (below_set (HB1.out.trans (B9.out.mono HB1.out.size)) hgr) hgr⟩
    | false =>
      rw [hcyx] at HYX
      have HT := Lib.hid (HTK.out.trans hcyx)
      clear HTK HANY hcyx
      go_wp2_with (first
       | (go_at_call 42; (with_reducible refine HCX.out.mono ?_); rintro e w5 ⟨v5, rfl, hoo_, hbb_⟩; obtain ⟨A5, c5, rfl⟩ := Kd.R_slice hoo_; have O5 := Lib.hid hoo_; have B5 := Lib.hid hbb_; clear hoo_ hbb_)
       | ((with_reducible refine gate_dst (N := 10) rfl ?_); refine box_event ?hg (N := 10) ?hd (cs := #[.string (⟨#[]⟩ : ByteArray), .slice none 0 0, .int .i64 0, .string (⟨#[]⟩ : ByteArray)]) (t := 60) ?hr ?_; (case hd => rfl); (case hg => rfl); (case hr => first | (go_simp; done) | (go_simp; rfl)); intro gb hgb w6 hbox hb6; have HBX := Lib.hid hbox; have B6 := Lib.hid hb6; have HGB := Lib.hid hgb; have y0 := (blk_cell hbox 0).trans rfl; have y1' := (blk_cell hbox 1).trans rfl; have y2 := (blk_cell hbox 2).trans rfl; have y3' := (blk_cell hbox 3).trans rfl; have f0 := blk_frozen hbox 0; have f1 := blk_frozen hbox 1; have f2 := blk_frozen hbox 2; have f3 := blk_frozen hbox 3; clear hbox hb6 hgb)
       | (go_at_call 44; (have hgb : w5.heap.size ≤ gb := Nat.le_of_eq HGB.out.symm); (have hb57 : Below w5.heap.size w5 ((((w6.setCell ⟨gb, 0, none⟩ (.string y1)).setCell ⟨gb, 1, none⟩ (.slice A5 ps.length c5)).setCell ⟨gb, 2, none⟩ (.int .i64 y3)).setCell ⟨gb, 3, none⟩ (.string y4)) := below_set (below_set (below_set (below_set B6.out hgb) hgb) hgb) hgb); (generalize ((((w6.setCell ⟨gb, 0, none⟩ (.string y1)).setCell ⟨gb, 1, none⟩ (.slice A5 ps.length c5)).setCell ⟨gb, 2, none⟩ (.int .i64 y3)).setCell ⟨gb, 3, none⟩ (.string y4)) = w7 at hb57 ⊢); (have b7 := B5.out.trans (hb57.mono B5.out.size)); (have o7 := Kd.R_below O5.out hb57); (with_reducible refine (HRX.out A5 c5 w7 (B0.out.trans (b7.mono B0.out.size)) (Kd.R_reads' o7).2.2 (Kd.R_reads' o7).2.1).mono ?_); rintro e w8 ⟨v8, rfl, hoo_, hbb_⟩; obtain ⟨A8, c8, rfl⟩ := Kd.R_slice hoo_; have O8 := Lib.hid hoo_; have BQ8 := Lib.hid (b7.trans (hbb_.mono b7.size)); clear hoo_ hbb_ o7 b7 hb57 hgb)
       | (go_at_call 43; (with_reducible refine (HYX.out A8 c8 w8 (Kd.R_reads' O8.out).2.2 (Kd.R_reads' O8.out).2.1).mono ?_); rintro e w9 ⟨rfl, hd_⟩; have BQ9 := Lib.hid (BQ8.out.trans (hd_.below.mono BQ8.out.size)); clear hd_))
      go_roundg (X.length - (i + 1))
      case measure => omega
      case rel => exact ⟨i + 1, by go_num, by omega, by omega, HT.out, BQ.out.trans (BQ9.out.mono BQ.out.size), Kd.C_below CX.out BQ9.out⟩
  · have hil : ¬ (i : Int) < (X.length : Int) := by omega
    have hna : X.any cy = false := by
     have := HN.out
     rwa [List.take_of_length_le zq6] at this
    obtain ⟨hr1, Mf, hlo⟩ : r1 = 0 ∧ ∃ Mf, longI cm kq [] id = some (r2, Mf) := by
     rcases HR.out with h | h
     · rw [hna] at h
       exact absurd h.1 zq10
     · exact h.2
    subst hr1
    have HL := Lib.hid (HLO.out r2 Mf hlo wq B0.out)
    clear hna hlo HN
    go_wp2_with (go_at_call 45; (with_reducible refine HL.out.mono ?_); rintro e w9 ⟨rfl, hk9, hg9⟩; have b9 := (below_alloc BQ.out (.map #[] 0)).grown hg9 (Nat.le_trans BQ.out.size zq13) (fun k_ hk_ => by obtain rfl := Option.some.inj hk_; exact BQ.out.size); have hrr := blk_below HRB.out b9; have z3 : w9.cell? ⟨gr, 0, none⟩ = some (.int .i64 0) := (blk_cell hrr 0).trans rfl; have z4 : w9.cell? ⟨gr, 1, none⟩ = some (.int .i64 0) := (blk_cell hrr 1).trans rfl; have fa := blk_frozen hrr 0; have fb := blk_frozen hrr 1; have R9 := Lib.hid hrr; have B9 := Lib.hid b9; clear hk9 hg9 b9 hrr)
    have hgr : w.heap.size ≤ gr := Nat.le_of_eq HGR.out.symm
    refine bodyPost_ret (results_cell_row rfl _ _ gr 38 #[.int .i64 0, .int .i64 r2] (0, 0) _ rfl (blk_set (blk_set R9.out 0 (.int .i64 0)) 1 (.int .i64 r2)) Tryz.underlying38 rfl zq5) rfl ?_
    exact ⟨rfl, below_set (below_set (HB1.out.trans (B9.out.mono HB1.out.size)) hgr) hgr⟩
end Go.Proofs.YtpnoghcdfbmpoaaGreatDoor.PX.X

namespace Go.Proofs.YtpnoghcdfbmpoaaGreatDoorX
open Go Go.RowKit Go.Proofs.YtpnoghcdfbmpoaaGreatDoorW.PrintWords Go.Proofs.YtpnoghcdfbmpoaaGreatDoor.PX
open Go.Proofs.YtpnoghcdfbmpoaaGreatDoor.PX.X (okO cmI cmI_all cmI_eq cmS cmS_eq cmS_all chkC codeC parsC sortB sortP rdS drop_getS)
set_option linter.unusedVariables false
theorem hist_l0 (l : List IObj) (h : okO l) (P : List ByteArray) (hP : P.length ≤ 1048576) : ∀ (d i : Nat), i + d = P.length → ∀ k, 9000001 + d < k → impl_historyOf.l0 k l P P (P.length : Int) (i : Int) = some (if chkC (cmI l) (P.drop i) = 0 then (P, 0) else ([], chkC (cmI l) (P.drop i)))
 | 0, i, hi, k, hk => by
   obtain ⟨k, rfl⟩ : ∃ m, k = m + 1 := ⟨k - 1, by omega⟩
   rw [impl_historyOf.l0, if_neg zq6, List.drop_eq_nil_of_le zq6]
   rfl
 | d + 1, i, hi, k, hk => by
   obtain ⟨k, rfl⟩ : ∃ m, k = m + 1 := ⟨k - 1, by omega⟩
   have hw : wrap64 ((i : Int) + 1) = ((i + 1 : Nat) : Int) := (wrap_in zq6 zq6).trans zq6
   rw [impl_historyOf.l0, if_pos zq6, if_pos zq6, if_pos zq6, rdS, cmI_all h zq6, Option.bind_some, hw, hist_l0 l h P hP d (i + 1) zq6 k zq6, drop_getS P i zq6]
   show _ = some (if (if codeC (cmI l (P.getD i ByteArray.empty)) = 0 then chkC (cmI l) (P.drop (i + 1)) else codeC (cmI l (P.getD i ByteArray.empty))) = 0 then (P, 0) else ([], (if codeC (cmI l (P.getD i ByteArray.empty)) = 0 then chkC (cmI l) (P.drop (i + 1)) else codeC (cmI l (P.getD i ByteArray.empty)))))
   by_cases hz : codeC (cmI l (P.getD i ByteArray.empty)) = 0
   · rw [if_pos hz, if_pos (show (cmI l (P.getD i ByteArray.empty)).2.2.2.2 = 0 from hz)]
   · rw [if_neg hz, if_neg (show ¬ (cmI l (P.getD i ByteArray.empty)).2.2.2.2 = 0 from hz), if_neg hz]
     rfl
noncomputable def namesU (l : List IObj) (id : ByteArray) : List ByteArray := id :: l.flatMap fun o => (comV l o.f0).2.1
theorem com_none (l : List IObj) (x : ByteArray) (h : ∀ o ∈ l, o.f0 ≠ x) : (comV l x).2.1 = [] := by
 have hg : getV l 3 x = none := by
  unfold getV
  cases hx : l[cnt (lessK oId x) l]? with
  | none => rfl
  | some o => 
    simp only
    rw [if_neg (h o (List.mem_of_getElem? hx))]
 unfold comV
 rw [hg]
theorem com_names (l : List IObj) (id x p : ByteArray) (hp : p ∈ (comV l x).2.1) : p ∈ namesU l id := by
 by_cases h : ∃ o ∈ l, o.f0 = x
 · obtain ⟨o, ho, rfl⟩ := h
   exact List.mem_cons_of_mem _ (List.mem_flatMap.2 ⟨o, ho, hp⟩)
 · rw [com_none l x (fun o ho z => h ⟨o, ho, z⟩)] at hp
   cases hp
theorem namesU_len (l : List IObj) (id : ByteArray) (hl : l.length ≤ 200) : (namesU l id).length ≤ 601 := by
 have : ∀ m : List IObj, (m.flatMap fun o => (comV l o.f0).2.1).length ≤ 3 * m.length := by
  intro m
  induction m with
  | nil => exact Nat.le_refl _
  | cons o m ih =>
    rw [List.flatMap_cons, List.length_append, List.length_cons]
    have := comV_len l o.f0
    omega
 have := this l
 unfold namesU
 rw [List.length_cons]
 omega
open Go.Proofs.YtpnoghcdfbmpoaaGreatDoor.PX.X (okO cmI cmI_all cmI_eq cmS cmS_eq cmS_all chkC codeC parsC sortB sortP rdS drop_getS histF histS reachF reachI seenO addNew sync fold_perm nodup_len sortB_sortP oAt_get)
set_option linter.unusedVariables false
theorem ok_of_store {l : List IObj} (hs : oSmall l) (h : storeV l = 0) : okO l := by
 obtain ⟨h1, _, h3⟩ := storeV_ok h
 refine ⟨h1, hs, fun i hi j hj hij => ?_⟩
 have ei : l[i]? = some l[i] := List.getElem?_eq_getElem hi
 have ej : l[j]? = some l[j] := List.getElem?_eq_getElem hj
 rw [oAt_get ei, oAt_get ej]
 exact h3 i j _ _ hij ei ej
theorem com_five (l : List IObj) (x p : ByteArray) (hp : p ∈ (comV l x).2.1) : p.size = 5 := by
 revert hp
 unfold comV
 cases getV l 3 x with
 | none => intro hp; cases hp
 | some D =>
   simp only
   split
   · rename_i h
     intro hp
     obtain ⟨_, u, hr, _⟩ := h
     have := (hr.ids p hp).2
     simpa using this
   · intro hp; cases hp
noncomputable def namesT (l : List IObj) (T : List ByteArray) : List ByteArray := T ++ l.flatMap fun o => (comV l o.f0).2.1
theorem names_com (l : List IObj) (T : List ByteArray) (x p : ByteArray) (hp : p ∈ (comV l x).2.1) : p ∈ namesT l T := by
 rcases List.mem_cons.1 (com_names l p x p hp) with h | h
 · by_cases hx : ∃ o ∈ l, o.f0 = x
   · obtain ⟨o, ho, rfl⟩ := hx
     exact List.mem_append.2 (.inr (List.mem_flatMap.2 ⟨o, ho, hp⟩))
   · rw [com_none l x (fun o ho z => hx ⟨o, ho, z⟩)] at hp
     cases hp
 · exact List.mem_append.2 (.inr h)
theorem names_len (l : List IObj) (T : List ByteArray) (hl : l.length ≤ 200) : (namesT l T).length ≤ T.length + 600 := by
 have := namesU_len l ⟨#[]⟩ hl
 unfold namesU at this
 unfold namesT
 rw [List.length_cons] at this
 rw [List.length_append]
 omega
theorem names_size (l : List IObj) (T : List ByteArray) (hT : ∀ x ∈ T, x.size ≤ 9223372036854775807) (p : ByteArray) (hp : p ∈ namesT l T) : p.size ≤ 9223372036854775807 := by
 rcases List.mem_append.1 hp with h | h
 · exact hT p h
 · obtain ⟨o, _, h⟩ := List.mem_flatMap.1 h
   have := com_five l o.f0 p h
   omega
theorem reach_all (l : List IObj) (h : okO l) (T : List ByteArray) (hT : T.length ≤ 100) (hs : ∀ x ∈ T, x.size ≤ 9223372036854775807) : ∃ R, R.Nodup ∧ (∀ x ∈ R, x ∈ namesT l T) ∧ ∀ k, 9000000 < k → reachI (comV l) k [] T = some R ∧ seenO (comV l) k 0 (addNew [] T) = some R := by
 have hN := names_len l T h.1
 have key := sync (comV l) (namesT l T) (fun x p hp => names_com l T x p hp) (fun x => comV_len l x) (names_size l T hs) 700 (fun L hn hL => by
  have := nodup_len L _ hn hL
  omega) zq6 3000 [] T zq6 List.nodup_nil (fun _ h => by cases h) (fun x hx => List.mem_append.2 (.inl hx)) (by simp only [List.length_nil]; omega)
 obtain ⟨R, h1, h2, h3, h4⟩ := key 3001 3001 zq6 zq6
 refine ⟨R, h1, h2, fun k hk => ⟨?_, ?_⟩⟩
 · obtain ⟨R', _, _, q3, q4⟩ := key k 3001 zq6 zq6
   rw [q3]
   exact q4.symm.trans h4
 · obtain ⟨R', _, _, q3, q4⟩ := key 3001 k zq6 zq6
   rw [show seenO (comV l) k 0 (addNew [] T) = some R' from q4]
   exact q3.symm.trans h3
theorem reached_all (l : List IObj) (h : okO l) (T : List ByteArray) (hT : T.length ≤ 100) (hs : ∀ x ∈ T, x.size ≤ 9223372036854775807) : ∃ R, R.Nodup ∧ (∀ x ∈ R, x ∈ namesT l T) ∧ (∀ k, 9000000 < k → impl_reached.f k l T = some (sortP R)) ∧ ∀ k, 9000000 < k → seenO (comV l) k 0 (addNew [] T) = some R := by
 obtain ⟨R, h1, h2, h3⟩ := reach_all l h T hT hs
 refine ⟨R, h1, h2, fun k hk => ?_, fun k hk => (h3 k hk).2⟩
 have hc2 : cmI l = comV l := funext (cmI_eq h)
 unfold impl_reached.f reachF
 rw [if_pos ⟨⟨hk, h⟩, by omega⟩, hc2, (h3 k hk).1, ← sortB_sortP R h1]
 rfl
theorem sort_perm (R : List ByteArray) (hn : R.Nodup) : (sortP R).Perm R := by
 have := (fold_perm R [] hn (fun _ _ h => by cases h) List.Pairwise.nil).1
 rwa [List.append_nil] at this
theorem hist_all (l : List IObj) (h : okO l) (id : ByteArray) (hs : id.size ≤ 9223372036854775807) : ∃ V : List ByteArray × Int, (∀ k, 9000300 < k → impl_historyOf.f k l id = some V ∧ spec_l9History.f k l id = some V) ∧ V.1.length ≤ 100 ∧ V.1.Nodup ∧ (¬ V.2 = 0 → V.1 = []) ∧ ∀ x ∈ V.1, x.size ≤ 9223372036854775807 := by
 have hs1 : ∀ x ∈ [id], x.size ≤ 9223372036854775807 := fun x hx => List.mem_singleton.1 hx ▸ hs
 obtain ⟨R, h1, h2, h3, h4⟩ := reached_all l h [id] zq13 hs1
 have hc1 : cmS l = comV l := funext (cmS_eq h)
 have hc2 : cmI l = comV l := funext (cmI_eq h)
 have hp := sort_perm R h1
 have hlen := hp.length_eq
 refine ⟨if 100 < R.length then ([], 2) else if chkC (comV l) (sortP R) = 0 then (sortP R, 0) else ([], chkC (comV l) (sortP R)), fun k hk => ⟨?_, ?_⟩, ?_, ?_, ?_, ?_⟩
 · unfold impl_historyOf.f
   rw [h3 k zq6, Option.bind_some]
   by_cases hl : 100 < R.length
   · rw [if_pos hl]
     repeat' first
      | rw [if_pos zq6]
      | rfl
   · rw [if_neg hl, if_neg zq6]
     have := hist_l0 l h (sortP R) zq6 (sortP R).length 0 zq6 k zq6
     rw [List.drop_zero, hc2] at this
     exact this
 · unfold spec_l9History.f histF
   rw [if_pos ⟨by omega, h⟩]
   unfold histS
   rw [hc1, show seenO (comV l) k 0 [id] = some R from h4 k zq6, Option.bind_some]
   by_cases hl : 100 < R.length
   · rw [if_pos hl, if_pos hl]
   · rw [if_neg hl, if_neg hl]
     by_cases hc : chkC (comV l) (sortP R) = 0
     · rw [if_pos hc, if_pos hc]
     · rw [if_neg hc, if_neg hc]
 · split
   · exact Nat.zero_le _
   · split
     · show (sortP R).length ≤ 100
       omega
     · exact Nat.zero_le _
 · split
   · exact List.nodup_nil
   · split
     · exact hp.symm.nodup h1
     · exact List.nodup_nil
 · split
   · intro _; rfl
   · split
     · intro z; exact absurd rfl z
     · intro _; rfl
 · intro x hx
   have : x ∈ R := by
    revert hx
    split
    · intro hx; cases hx
    · split
      · intro hx; exact hp.mem_iff.1 hx
      · intro hx; cases hx
   exact names_size l [id] hs1 x (h2 x this)
open Go.Proofs.YtpnoghcdfbmpoaaGreatDoor.PX.X (CmR parsC seenO addNew addNew_pre hasB hasB_mem nodup_len)
set_option linter.unusedVariables false
def stepsTo (cm : ByteArray → CmR) : Nat → ByteArray → ByteArray → Prop
 | 0, x, y => x = y
 | n + 1, x, y => ∃ p, p ∈ parsC (cm x) ∧ stepsTo cm n p y
def Gets (cm : ByteArray → CmR) (x y : ByteArray) : Prop := ∃ n, stepsTo cm n x y
theorem reach_refl (cm : ByteArray → CmR) (x : ByteArray) : Gets cm x x := ⟨0, rfl⟩
theorem reach_step {cm : ByteArray → CmR} {x p y : ByteArray} (hp : p ∈ parsC (cm x)) (h : Gets cm p y) : Gets cm x y := by
 obtain ⟨n, h⟩ := h
 exact ⟨n + 1, p, hp, h⟩
theorem reach_in {cm : ByteArray → CmR} {X : List ByteArray} (hc : ∀ x ∈ X, ∀ p ∈ parsC (cm x), p ∈ X) {y : ByteArray} : ∀ {x : ByteArray}, x ∈ X → Gets cm x y → y ∈ X := by
 intro x hx h
 obtain ⟨n, h⟩ := h
 induction n generalizing x with
 | zero =>
   have e : x = y := h
   rw [← e]
   exact hx
 | succ n ih =>
   obtain ⟨p, hp, h⟩ := h
   exact ih (hc x hx p hp) h
theorem addNew_mem : ∀ (ps S : List ByteArray) (x : ByteArray), x ∈ addNew S ps ↔ x ∈ S ∨ x ∈ ps
 | [], S, x => by
   show x ∈ S ↔ _
   simp
 | p :: ps, S, x => by
   show x ∈ addNew (if hasB S p = true then S else S ++ [p]) ps ↔ _
   rw [addNew_mem ps]
   by_cases hh : hasB S p = true
   · rw [if_pos hh]
     have := (hasB_mem S p).1 hh
     constructor
     · rintro (h | h)
       · exact .inl h
       · exact .inr (List.mem_cons_of_mem _ h)
     · rintro (h | h)
       · exact .inl h
       · rcases List.mem_cons.1 h with h | h
         · exact .inl (h ▸ this)
         · exact .inr h
   · rw [if_neg hh, List.mem_append, List.mem_singleton, List.mem_cons, or_assoc]
theorem getD_pre (S t : List ByteArray) (j : Nat) (hj : j < S.length) : (S ++ t).getD j ByteArray.empty = S.getD j ByteArray.empty := by
 rw [List.getD_eq_getElem?_getD, List.getElem?_append_left hj, ← List.getD_eq_getElem?_getD]
theorem seen_spec (cm : ByteArray → CmR) : ∀ (k i : Nat) (S R : List ByteArray), seenO cm k i S = some R → (∀ j, j < i → j < S.length → ∀ p ∈ parsC (cm (S.getD j ByteArray.empty)), p ∈ S) →
 (∀ x ∈ S, x ∈ R) ∧ (∀ x ∈ R, ∀ p ∈ parsC (cm x), p ∈ R) ∧ ∀ y ∈ R, ∃ x, x ∈ S ∧ Gets cm x y
 | 0, i, S, R, h, _ => by simp [seenO] at h
 | k + 1, i, S, R, h, hinv => by
   unfold seenO at h
   by_cases hlt : i < S.length
   · rw [if_pos hlt] at h
     split at h
     · have hmem : S.getD i ByteArray.empty ∈ S := by
        rw [List.getD_eq_getElem?_getD, List.getElem?_eq_getElem hlt, Option.getD_some]
        exact List.getElem_mem hlt
       obtain ⟨t, ht⟩ := addNew_pre (parsC (cm (S.getD i ByteArray.empty))) S
       obtain ⟨h1, h2, h3⟩ := seen_spec cm k (i + 1) _ R h (fun j hj hjl p hp => by
        have hjS : j < S.length := by omega
        rw [ht, getD_pre S t j hjS] at hp
        rw [addNew_mem]
        by_cases hji : j = i
        · exact .inr (hji ▸ hp)
        · exact .inl (hinv j zq6 hjS p hp))
       refine ⟨fun x hx => h1 x ((addNew_mem _ S x).2 (.inl hx)), h2, fun y hy => ?_⟩
       obtain ⟨x, hx, hr⟩ := h3 y hy
       rcases (addNew_mem _ S x).1 hx with hx | hx
       · exact ⟨x, hx, hr⟩
       · exact ⟨_, hmem, reach_step hx hr⟩
     · cases h
   · rw [if_neg hlt] at h
     split at h
     · obtain rfl := Option.some.inj h
       refine ⟨fun x hx => hx, fun x hx p hp => ?_, fun y hy => ⟨y, hy, reach_refl cm y⟩⟩
       obtain ⟨j, hj, rfl⟩ := List.getElem_of_mem hx
       refine hinv j zq6 hj p ?_
       rw [List.getD_eq_getElem?_getD, List.getElem?_eq_getElem hj, Option.getD_some]
       exact hp
     · cases h
theorem seen_reach {cm : ByteArray → CmR} {k : Nat} {T R : List ByteArray} (h : seenO cm k 0 (addNew [] T) = some R) : (∀ x ∈ R, ∀ p ∈ parsC (cm x), p ∈ R) ∧ ∀ y, y ∈ R ↔ ∃ x, x ∈ T ∧ Gets cm x y := by
 obtain ⟨h1, h2, h3⟩ := seen_spec cm k 0 _ R h (fun j hj => absurd hj (Nat.not_lt_zero _))
 refine ⟨h2, fun y => ⟨fun hy => ?_, fun ⟨x, hx, hr⟩ => reach_in h2 (h1 x ((addNew_mem T [] x).2 (.inr hx))) hr⟩⟩
 obtain ⟨x, hx, hr⟩ := h3 y hy
 rcases (addNew_mem T [] x).1 hx with hx | hx
 · cases hx
 · exact ⟨x, hx, hr⟩
open Go.Proofs.YtpnoghcdfbmpoaaGreatDoor.PX.X (CmR parsC nodup_len KnL knownV foldI longI)
set_option linter.unusedVariables false
def mx (a b : Int) : Int := if a < b then b else a
theorem mx_l (a b : Int) : a ≤ mx a b := by unfold mx; split <;> omega
theorem mx_r (a b : Int) : b ≤ mx a b := by unfold mx; split <;> omega
theorem mx_le {a b B : Int} (h1 : a ≤ B) (h2 : b ≤ B) : mx a b ≤ B := by unfold mx; split <;> omega
def most (f : ByteArray → Int) : List ByteArray → Int → Int
 | [], m => m
 | p :: ps, m => most f ps (mx m (f p))
theorem most_ge (f : ByteArray → Int) : ∀ (ps : List ByteArray) (m : Int), m ≤ most f ps m
 | [], m => Int.le_refl m
 | p :: ps, m => Int.le_trans (mx_l m (f p)) (most_ge f ps _)
theorem most_mem (f : ByteArray → Int) : ∀ (ps : List ByteArray) (m : Int) (p : ByteArray), p ∈ ps → f p ≤ most f ps m
 | q :: ps, m, p, h => by
   rcases List.mem_cons.1 h with h | h
   · rw [h]
     exact Int.le_trans (mx_r m (f q)) (most_ge f ps _)
   · exact most_mem f ps _ p h
theorem most_le (f : ByteArray → Int) (B : Int) : ∀ (ps : List ByteArray) (m : Int), m ≤ B → (∀ p ∈ ps, f p ≤ B) → most f ps m ≤ B
 | [], m, h, _ => h
 | p :: ps, m, h, hp => most_le f B ps _ (mx_le h (hp p List.mem_cons_self)) (fun q hq => hp q (List.mem_cons_of_mem _ hq))
theorem most_congr (f g : ByteArray → Int) : ∀ (ps : List ByteArray) (m : Int), (∀ p ∈ ps, f p = g p) → most f ps m = most g ps m
 | [], m, _ => rfl
 | p :: ps, m, h => by
   show most f ps (mx m (f p)) = most g ps (mx m (g p))
   rw [h p List.mem_cons_self]
   exact most_congr f g ps _ (fun q hq => h q (List.mem_cons_of_mem _ hq))
def ht (cm : ByteArray → CmR) : Nat → ByteArray → Int
 | 0, _ => 0
 | n + 1, x => most (ht cm n) (parsC (cm x)) 0 + 1
theorem ht_le (cm : ByteArray → CmR) : ∀ (n : Nat) (x : ByteArray), 0 ≤ ht cm n x ∧ ht cm n x ≤ n
 | 0, x => ⟨Int.le_refl 0, Int.le_refl 0⟩
 | n + 1, x => by
   have h1 := most_ge (ht cm n) (parsC (cm x)) 0
   have h2 := most_le (ht cm n) n (parsC (cm x)) 0 zq6 (fun p _ => (ht_le cm n p).2)
   show 0 ≤ most (ht cm n) (parsC (cm x)) 0 + 1 ∧ most (ht cm n) (parsC (cm x)) 0 + 1 ≤ ((n + 1 : Nat) : Int)
   omega
noncomputable def decR (cm : ByteArray → CmR) (x y : ByteArray) : Bool := @decide (Gets cm x y) (Classical.propDecidable _)
theorem decR_iff {cm : ByteArray → CmR} {x y : ByteArray} : decR cm x y = true ↔ Gets cm x y := by
 unfold decR
 exact @decide_eq_true_iff _ (Classical.propDecidable _)
noncomputable def rk (cm : ByteArray → CmR) (X : List ByteArray) (x : ByteArray) : Nat := (X.filter fun y => decR cm x y).length
structure GoodH (cm : ByteArray → CmR) (X : List ByteArray) : Prop where
 nodup : X.Nodup
 len : X.length ≤ 100
 closed : ∀ x ∈ X, ∀ p ∈ parsC (cm x), p ∈ X
 free : ∀ x ∈ X, ∀ p ∈ parsC (cm x), ¬ Gets cm p x
variable {cm : ByteArray → CmR} {X : List ByteArray}
theorem rk_le (x : ByteArray) : rk cm X x ≤ X.length := List.length_filter_le _ _
theorem rk_pos {x : ByteArray} (hx : x ∈ X) : 1 ≤ rk cm X x := by
 have : x ∈ X.filter fun y => decR cm x y := List.mem_filter.2 ⟨hx, decR_iff.2 (reach_refl cm x)⟩
 exact List.length_pos_of_mem this
theorem rk_lt (hg : GoodH cm X) {x p : ByteArray} (hx : x ∈ X) (hp : p ∈ parsC (cm x)) : rk cm X p < rk cm X x := by
 have h1 : x ∉ X.filter fun y => decR cm p y := fun h => hg.free x hx p hp (decR_iff.1 (List.mem_filter.1 h).2)
 have h2 : (x :: X.filter fun y => decR cm p y).Nodup := List.nodup_cons.2 ⟨h1, hg.nodup.filter _⟩
 have h3 := nodup_len _ (X.filter fun y => decR cm x y) h2 (fun y hy => by
  rcases List.mem_cons.1 hy with h | h
  · rw [h]
    exact List.mem_filter.2 ⟨hx, decR_iff.2 (reach_refl cm x)⟩
  · have := List.mem_filter.1 h
    exact List.mem_filter.2 ⟨this.1, decR_iff.2 (reach_step hp (decR_iff.1 this.2))⟩)
 rw [List.length_cons] at h3
 exact h3
theorem ht_stable (hg : GoodH cm X) : ∀ (n m : Nat) (x : ByteArray), x ∈ X → rk cm X x ≤ n → rk cm X x ≤ m → ht cm n x = ht cm m x
 | 0, m, x, hx, h1, _ => absurd (rk_pos (cm := cm) hx) zq6
 | n + 1, m, x, hx, h1, h2 => by
   obtain ⟨m, rfl⟩ : ∃ q, m = q + 1 := ⟨m - 1, by have := rk_pos (cm := cm) hx; omega⟩
   show most (ht cm n) (parsC (cm x)) 0 + 1 = most (ht cm m) (parsC (cm x)) 0 + 1
   rw [most_congr (ht cm n) (ht cm m) _ _ (fun p hp => by
    have := rk_lt hg hx hp
    exact ht_stable hg n m p (hg.closed x hx p hp) zq6 zq6)]
def hgt (cm : ByteArray → CmR) (x : ByteArray) : Int := ht cm 100 x
theorem hgt_eq (hg : GoodH cm X) {x : ByteArray} (hx : x ∈ X) : hgt cm x = most (hgt cm) (parsC (cm x)) 0 + 1 := by
 have hl := hg.len
 have hr := rk_le (cm := cm) (X := X) x
 exact ht_stable hg 100 101 x hx zq6 zq6
theorem hgt_le (hg : GoodH cm X) {x : ByteArray} (hx : x ∈ X) : 1 ≤ hgt cm x ∧ hgt cm x ≤ X.length := by
 have hl := hg.len
 have hr := rk_le (cm := cm) (X := X) x
 constructor
 · rw [hgt_eq hg hx]
   have := most_ge (hgt cm) (parsC (cm x)) 0
   omega
 · have : hgt cm x = ht cm X.length x := ht_stable hg 100 X.length x hx zq6 zq6
   rw [this]
   exact (ht_le cm X.length x).2
theorem hgt_par (hg : GoodH cm X) {x p : ByteArray} (hx : x ∈ X) (hp : p ∈ parsC (cm x)) : hgt cm p < hgt cm x := by
 rw [hgt_eq hg hx]
 have := most_mem (hgt cm) (parsC (cm x)) 0 p hp
 omega
def GoodM (cm : ByteArray → CmR) (X : List ByteArray) (M : KnL) : Prop := (M.map Prod.fst).Nodup ∧ ∀ e ∈ M, e.1 ∈ X ∧ e.2 = hgt cm e.1
theorem known_some : ∀ {M : KnL} {x : ByteArray} {v : Int}, knownV M x = some v → (x, v) ∈ M
 | p :: M, x, v, h => by
   unfold knownV at h
   by_cases e : p.1 = x
   · rw [if_pos e] at h
     obtain rfl := Option.some.inj h
     rw [← e]
     exact List.mem_cons_self
   · rw [if_neg e] at h
     exact List.mem_cons_of_mem _ (known_some h)
theorem known_none : ∀ {M : KnL} {x : ByteArray}, knownV M x = none → x ∉ M.map Prod.fst
 | [], x, _, h => by cases h
 | p :: M, x, h, hm => by
   unfold knownV at h
   by_cases e : p.1 = x
   · rw [if_pos e] at h
     cases h
   · rw [if_neg e] at h
     rcases List.mem_cons.1 hm with hm | hm
     · exact e hm.symm
     · exact known_none h hm
theorem goodM_len (hg : GoodH cm X) {M : KnL} (h : GoodM cm X M) : M.length ≤ 100 := by
 have := nodup_len (M.map Prod.fst) X h.1 (fun x hx => by
  obtain ⟨e, he, rfl⟩ := List.mem_map.1 hx
  exact (h.2 e he).1)
 rw [List.length_map] at this
 exact Nat.le_trans this hg.len
theorem long_ok (hg : GoodH cm X) (hsz : ∀ x ∈ X, x.size ≤ 9223372036854775807) (hp3 : ∀ x, (parsC (cm x)).length ≤ 3) :
 ∀ (kq : Nat) (x : ByteArray), x ∈ X → rk cm X x ≤ kq → ∀ M, GoodM cm X M → ∃ E, longI cm kq M x = some (hgt cm x, E ++ M) ∧ GoodM cm X (E ++ M) ∧ ∀ e ∈ E, Gets cm x e.1
 | 0, x, hx, h, M, _ => absurd (rk_pos (cm := cm) hx) zq6
 | kq + 1, x, hx, h, M, hM => by
   unfold longI
   have hp := hp3 x
   rw [if_pos ⟨hsz x hx, by omega⟩]
   cases hk : knownV M x with
   | some v =>
     refine ⟨[], ?_, hM, fun e he => by cases he⟩
     have := (hM.2 _ (known_some hk)).2
     simp only at this
     rw [this]
     rfl
   | none =>
     have hnk := known_none hk
     have key : ∀ (ps : List ByteArray), (∀ p ∈ ps, p ∈ parsC (cm x)) → ∀ (m : Int) (M : KnL), GoodM cm X M → ∃ E, foldI (longI cm kq) ps m M = some (most (hgt cm) ps m, E ++ M) ∧ GoodM cm X (E ++ M) ∧ ∀ e ∈ E, ∃ p, p ∈ parsC (cm x) ∧ Gets cm p e.1 := by
      intro ps
      induction ps with
      | nil => intro _ m M hM; exact ⟨[], rfl, hM, fun e he => by cases he⟩
      | cons p ps ih =>
        intro hps m M hM
        have hpp := hps p List.mem_cons_self
        obtain ⟨E1, e1, e2, e3⟩ := long_ok hg hsz hp3 kq p (hg.closed x hx p hpp) (by have := rk_lt hg hx hpp; omega) M hM
        obtain ⟨E2, f1, f2, f3⟩ := ih (fun q hq => hps q (List.mem_cons_of_mem _ hq)) (mx m (hgt cm p)) (E1 ++ M) e2
        refine ⟨E2 ++ E1, ?_, by rw [List.append_assoc]; exact f2, fun e he => ?_⟩
        · unfold foldI
          rw [e1, Option.bind_some, List.append_assoc]
          exact f1
        · rcases List.mem_append.1 he with he | he
          · exact f3 e he
          · exact ⟨p, hpp, e3 e he⟩
     obtain ⟨E, e1, e2, e3⟩ := key (parsC (cm x)) (fun p hp => hp) 0 M hM
     have hge := most_ge (hgt cm) (parsC (cm x)) 0
     have hle := (hgt_le hg hx).2
     have hlen := hg.len
     have heq := hgt_eq hg hx
     have hel := goodM_len hg e2
     have hnew : x ∉ (E ++ M).map Prod.fst := by
      rw [List.map_append]
      intro hm
      rcases List.mem_append.1 hm with hm | hm
      · obtain ⟨e, he, hex⟩ := List.mem_map.1 hm
        obtain ⟨p, hp, hr⟩ := e3 e he
        rw [hex] at hr
        exact hg.free x hx p hp hr
      · exact hnk hm
     refine ⟨(x, hgt cm x) :: E, ?_, ⟨List.nodup_cons.2 ⟨hnew, e2.1⟩, fun e he => ?_⟩, fun e he => ?_⟩
     · simp only
       rw [e1, Option.bind_some]
       simp only
       rw [if_pos ⟨by omega, by omega, by omega⟩, ← heq]
       rfl
     · rcases List.mem_cons.1 he with h | h
       · rw [h]
         exact ⟨hx, rfl⟩
       · exact e2.2 e h
     · rcases List.mem_cons.1 he with h | h
       · rw [h]
         exact reach_refl cm x
       · obtain ⟨p, hp, hr⟩ := e3 e h
         exact reach_step hp hr
end Go.Proofs.YtpnoghcdfbmpoaaGreatDoorX

namespace Go.Proofs.YtpnoghcdfbmpoaaGreatDoor.PX.X
open Go Go.RowKit Go.Lib Go.Proofs.YtpnoghcdfbmpoaaGreatDoorW.PrintWords Go.Proofs.YtpnoghcdfbmpoaaGreatDoor.PX Go.Proofs.YtpnoghcdfbmpoaaGreatDoorX
set_option linter.unusedVariables false
def histG (l : List IObj) (a : ByteArray) : List ByteArray × Int := (impl_historyOf.f 9000301 l a).getD ([], 5)
theorem histG_all {l : List IObj} (h : okO l) (a : ByteArray) (ha : a.size ≤ 9223372036854775807) : (∀ k, 9000300 < k → impl_historyOf.f k l a = some (histG l a) ∧ spec_l9History.f k l a = some (histG l a)) ∧ (histG l a).1.length ≤ 100 ∧ (histG l a).1.Nodup ∧ (¬ (histG l a).2 = 0 → (histG l a).1 = []) ∧ ∀ x ∈ (histG l a).1, x.size ≤ 9223372036854775807 := by
 obtain ⟨V, h1, h2⟩ := hist_all l h a ha
 have e : histG l a = V := by unfold histG; rw [(h1 9000301 zq6).1]; rfl
 rw [e]
 exact ⟨h1, h2⟩
theorem hist_set {l : List IObj} (h : okO l) (id : ByteArray) (hs : id.size ≤ 9223372036854775807) (h0 : (histG l id).2 = 0) : (∀ x ∈ (histG l id).1, ∀ p ∈ parsC (comV l x), p ∈ (histG l id).1) ∧ id ∈ (histG l id).1 := by
 have hV := ((histG_all h id hs).1 9000301 zq6).1
 obtain ⟨R, h1, h2, h3, h4⟩ := reached_all l h [id] zq13 (fun x hx => List.mem_singleton.1 hx ▸ hs)
 have hp := sort_perm R h1
 generalize histG l id = V at hV h0 ⊢
 unfold impl_historyOf.f at hV
 rw [h3 9000301 zq6, Option.bind_some] at hV
 have e : V.1 = sortP R := by
  by_cases hl : ((sortP R).length : Int) > 100
  · rw [if_pos hl] at hV
    rw [← Option.some.inj hV] at h0
    exact absurd h0 zq10
  · rw [if_neg hl] at hV
    have := hist_l0 l h (sortP R) zq6 (sortP R).length 0 zq6 9000301 zq6
    rw [show impl_historyOf.l0 9000301 l (sortP R) (sortP R) ((sortP R).length : Int) 0 = _ from this] at hV
    by_cases hc : chkC (cmI l) ((sortP R).drop 0) = 0
    · rw [if_pos hc] at hV
      rw [← Option.some.inj hV]
    · rw [if_neg hc] at hV
      rw [← Option.some.inj hV] at h0
      exact absurd h0 hc
 obtain ⟨g1, g2⟩ := seen_reach (h4 9000301 zq6)
 rw [e]
 exact ⟨fun x hx p hp' => hp.mem_iff.2 (g1 x (hp.mem_iff.1 hx) p hp'), hp.mem_iff.2 ((g2 id).2 ⟨id, List.mem_singleton.2 rfl, reach_refl _ id⟩)⟩
def reI (l : List IObj) (x : ByteArray) : List ByteArray := (impl_reached.f 9000301 l (cmI l x).2.1).getD []
def cyI (l : List IObj) (x : ByteArray) : Bool := hasB (reI l x) x
theorem reI_all {l : List IObj} (h : okO l) (x : ByteArray) : (∀ k, 9000000 < k → impl_reached.f k l (parsC (comV l x)) = some (reI l x)) ∧ (reI l x).length ≤ 1000 ∧ (cyI l x = true ↔ ∃ p, p ∈ parsC (comV l x) ∧ Gets (comV l) p x) := by
 have h3 := comV_len l x
 obtain ⟨R, h1, h2, hr, h4⟩ := reached_all l h (comV l x).2.1 zq6 (fun p hp => by
  have := com_five l x p hp
  omega)
 have hp := sort_perm R h1
 have e : reI l x = sortP R := by
  unfold reI
  rw [cmI_eq h, hr 9000301 zq6]
  rfl
 obtain ⟨g1, g2⟩ := seen_reach (h4 9000301 zq6)
 have hl := nodup_len R (namesT l (comV l x).2.1) h1 h2
 have hl2 := names_len l (comV l x).2.1 h.1
 have hl3 := hp.length_eq
 unfold cyI
 rw [e]
 refine ⟨hr, by omega, ?_⟩
 rw [hasB_mem, hp.mem_iff]
 exact g2 x
theorem con_has (k : Nat) (hk : 1048577 < k) (Y : List ByteArray) (hY : Y.length ≤ 1048576) (x : ByteArray) : slices_Contains_string_string.f k Y x = some (hasB Y x) := by
 obtain ⟨bv, h1, h2⟩ := contains_tells Y x zq6 k zq6
 rw [h1, Bool.eq_iff_iff.2 (h2.trans (hasB_mem Y x).symm)]
theorem gen_good {l : List IObj} (h : okO l) (id : ByteArray) (hs : id.size ≤ 9223372036854775807) (h0 : (histG l id).2 = 0) (hc : (histG l id).1.any (cyI l) = false) : GoodH (comV l) (histG l id).1 := by
 obtain ⟨_, q2, q3, _, _⟩ := histG_all h id hs
 obtain ⟨g1, g2⟩ := hist_set h id hs h0
 refine ⟨q3, q2, g1, fun x hx p hp hr => ?_⟩
 have := ((reI_all h x).2.2).2 ⟨p, hp, hr⟩
 have h2 : (histG l id).1.any (cyI l) = true := List.any_eq_true.2 ⟨x, hx, this⟩
 rw [hc] at h2
 cases h2
def genW (l : List IObj) (id : ByteArray) : Int × Int := if (histG l id).2 = 0 then (if (histG l id).1.any (cyI l) = true then (1, 0) else (0, hgt (cmI l) id)) else ((histG l id).2, 0)
def genF (k : Nat) (l : List IObj) (id : ByteArray) : Option (Int × Int) := (impl_StoreFault.f k l).bind fun st => if st = 0 then (if 9000300 < k ∧ okO l ∧ id.size ≤ 9223372036854775807 then some (genW l id) else none) else some (st, 0)
theorem genF_calls (k : Nat) (A0 : Option Addr) (c0 : Nat) (l0 : List S50) (id : ByteArray) (r1 r2 : Int) (w : World) (hr0 : Kd.C k50 w A0 l0.length l0) (hc0 : l0.length ≤ c0) (hG : Gt w) (h : genF k l0 id = some (r1, r2)) :
 Calls Tryz.prog 20 #[.slice A0 l0.length c0, .string id] w fun e w' => e = .returned (.agg #[.int .i64 r1, .int .i64 r2]) ∧ Below w.heap.size w w' := by
 unfold genF at h
 obtain ⟨st, hst, h⟩ := Option.bind_eq_some_iff.mp h
 by_cases hz : st = 0
 · rw [if_pos hz] at h
   subst hz
   by_cases hk : 9000300 < k ∧ okO l0 ∧ id.size ≤ 9223372036854775807
   · rw [if_pos hk] at h
     obtain ⟨hk1, hok, hs⟩ := hk
     obtain ⟨q1, q2, q3, q4, q5⟩ := histG_all hok id hs
     have hx := (q1 k hk1).1
     have hcm : cmI l0 = comV l0 := funext (cmI_eq hok)
     have hW := Option.some.inj h
     unfold genW at hW
     by_cases h0 : (histG l0 id).2 = 0
     · rw [if_pos h0] at hW
       have hx0 : impl_historyOf.f k l0 id = some ((histG l0 id).1, 0) := by
        rw [hx]
        exact congrArg some (Prod.ext rfl h0)
       refine gen_main k A0 c0 l0 id (histG l0 id).1 (cmI l0) (reI l0) (cyI l0) 101 r1 r2 w hr0 hc0 hG hst hx0 zq6 (cmI_all hok zq6) (fun x hx => by rw [hcm]; exact (reI_all hok x).1 k zq6) (fun x hx => con_has k zq6 (reI l0 x) (by have := (reI_all hok x).2.1; omega) x) ?_
       cases hc : (histG l0 id).1.any (cyI l0) with
       | true =>
         rw [hc, if_pos rfl] at hW
         obtain ⟨h1, h2⟩ := Prod.mk.inj hW
         exact .inl ⟨rfl, h1.symm, h2.symm⟩
       | false =>
         rw [hc, if_neg zq10] at hW
         obtain ⟨h1, h2⟩ := Prod.mk.inj hW
         have hg := gen_good hok id hs h0 hc
         obtain ⟨_, hid⟩ := hist_set hok id hs h0
         obtain ⟨E, e1, _, _⟩ := long_ok hg q5 (fun x => comV_len l0 x) 101 id hid (by have := rk_le (cm := comV l0) (X := (histG l0 id).1) id; omega) [] ⟨List.nodup_nil, fun e he => by cases he⟩
         refine .inr ⟨rfl, h1.symm, E ++ [], ?_⟩
         rw [← h2, hcm]
         exact e1
     · rw [if_neg h0] at hW
       obtain ⟨h1, h2⟩ := Prod.mk.inj hW
       rw [← h1, ← h2]
       exact gen_hist k A0 c0 l0 id (histG l0 id).1 (histG l0 id).2 w hr0 hc0 hG hst hx h0
   · rw [if_neg hk] at h
     cases h
 · rw [if_neg hz] at h
   obtain ⟨h1, h2⟩ := Prod.mk.inj (Option.some.inj h)
   rw [← h1, ← h2]
   exact gen_store k A0 c0 l0 id st w hr0 hc0 hG hst hz
end Go.Proofs.YtpnoghcdfbmpoaaGreatDoor.PX.X

namespace Go.Proofs.YtpnoghcdfbmpoaaGreatDoor.PX
open Go.RowKit Go.Proofs.YtpnoghcdfbmpoaaGreatDoorW.PrintWords Go.Proofs.YtpnoghcdfbmpoaaGreatDoorW.PrintLast Go.Proofs.YtpnoghcdfbmpoaaGreatDoorW.PrintMore
attribute [local go_sem] max2_int min2_int max_two min_two max_three min_three max_four min_four   -- for this text's walks alone
set_option linter.unusedVariables false
set_option linter.unusedSimpArgs false
def impl_GenerationOf.f (k : Nat) (l0 : List (S50)) (a1 : ByteArray) : Option (Int × Int) := X.genF k l0 a1
theorem impl_GenerationOf.calls (k : Nat) (A0 : Option Addr) (c0 : Nat) (l0 : List (S50)) (a1 : ByteArray) (r1 : Int) (r2 : Int) (w : World) (hr0 : Kd.C k50 w A0 l0.length l0) (hc0 : l0.length ≤ c0) (hG : Gt w) (h : impl_GenerationOf.f k l0 a1 = some (r1, r2)) :
  Calls Tryz.prog 20 #[.slice A0 l0.length c0, .string a1] w fun e w' => e = .returned (.agg #[.int .i64 r1, .int .i64 r2]) ∧ Below w.heap.size w w' := X.genF_calls k A0 c0 l0 a1 r1 r2 w hr0 hc0 hG h
def laws_FnExactGenerationOf.f (k : Nat) (l0 : List (S48)) (a1 : ByteArray) : Option (Bool) := if (a1.size : Int) > 1048576 then (some true) else ((laws_szObjectS.f k l0 1048576).bind fun t682 => (if t682 < 0 then (some true) else ((laws_toObjectS.f k l0).bind fun t683 => ((spec_GenerationOf.f k t683 a1).bind fun bt686 => ((laws_toObjectS.f k l0).bind fun t689 => ((impl_GenerationOf.f k t689 a1).bind fun bt692 => ((laws_eqIntResult.f bt692.1 bt692.2 bt686.1 bt686.2).bind fun t695 => (if t695 = true then ((laws_toObjectS.f k l0).bind fun t696 => ((laws_eqObjectS.f k t689 t696).bind fun t699 => (if t699 = true then (some true) else (some false)))) else (some false)))))))))
set_option maxHeartbeats 8000000 in
set_option maxRecDepth 100000 in
theorem laws_FnExactGenerationOf.calls (k : Nat) (A0 : Option Addr) (c0 : Nat) (l0 : List (S48)) (a1 : ByteArray) (r : Bool) (w : World) (hr0 : Kd.C k48 w A0 l0.length l0) (hc0 : l0.length ≤ c0) (hG : Gt w) (h : laws_FnExactGenerationOf.f k l0 a1 = some r) (hT_ : r = true := by rfl) :
  Calls Tryz.prog 5 #[.slice A0 l0.length c0, .string a1] w fun e w' => e = .returned (.bool r) ∧ Below w.heap.size w w' := by
 have HG := zK hG
 clear hG
 have hu38 := Tryz.underlying38
 have HR0 := zK hr0
 have HC0 := zK hc0
 clear hr0 hc0
 have HB := zK (Below.refl w.heap.size w)
 have H : (if (a1.size : Int) > 1048576 then (some true) else ((laws_szObjectS.f k l0 1048576).bind fun t682 => (if t682 < 0 then (some true) else ((laws_toObjectS.f k l0).bind fun t683 => ((spec_GenerationOf.f k t683 a1).bind fun bt686 => ((laws_toObjectS.f k l0).bind fun t689 => ((impl_GenerationOf.f k t689 a1).bind fun bt692 => ((laws_eqIntResult.f bt692.1 bt692.2 bt686.1 bt686.2).bind fun t695 => (if t695 = true then ((laws_toObjectS.f k l0).bind fun t696 => ((laws_eqObjectS.f k t689 t696).bind fun t699 => (if t699 = true then (some true) else (some false)))) else (some false)))))))))) = some r := h
 clear h
 by_cases c3 : (a1.size : Int) > 1048576
 ·
  rw [if_pos c3] at H
  have c3b0 : decide (1048576 < (a1.size : Int)) = true := decide_eq_true c3
  have c3b1 : decide (1048576 < a1.size) = true := decide_eq_true zq6
  clear c3
  obtain rfl := Option.some.inj H
  go_enter Tryz.func5, Tryz.ntmps5
  go_wp2
  go_ret
  exact ⟨zq3, zq0⟩
 rw [if_neg c3] at H
 have c3b0 : decide (1048576 < (a1.size : Int)) = false := decide_eq_false c3
 have c3b1 : decide (1048576 < a1.size) = false := decide_eq_false zq6
 clear c3
 replace H := Option.bind_eq_some_iff.mp H
 obtain ⟨t682, A40, H⟩ := H
 replace H : (if t682 < 0 then (some true) else ((laws_toObjectS.f k l0).bind fun t683 => ((spec_GenerationOf.f k t683 a1).bind fun bt686 => ((laws_toObjectS.f k l0).bind fun t689 => ((impl_GenerationOf.f k t689 a1).bind fun bt692 => ((laws_eqIntResult.f bt692.1 bt692.2 bt686.1 bt686.2).bind fun t695 => (if t695 = true then ((laws_toObjectS.f k l0).bind fun t696 => ((laws_eqObjectS.f k t689 t696).bind fun t699 => (if t699 = true then (some true) else (some false)))) else (some false)))))))) = some r := H
 have A4 := zK A40
 clear A40
 by_cases c5 : t682 < 0
 ·
  rw [if_pos c5] at H
  have c5b0 : decide (t682 < 0) = true := decide_eq_true c5
  clear c5
  obtain rfl := Option.some.inj H
  go_enter Tryz.func5, Tryz.ntmps5
  go_wp2_with (first | ((with_reducible refine gate_callee (f := 8) rfl ?_); refine goesL_ (some 14) rfl rfl Tryz.func8 zq5 rfl #[.slice A0 l0.length c0, .int .i64 1048576] rfl zq1 ?_; (with_reducible refine (laws_szObjectS.calls k _ _ l0 1048576 t682 _ ?side1 ?side2 A4.out).mono ?_); (case side1 => repeat (first | exact HR0.out | (with_reducible refine Kd.C_alloc ?_ _) | (with_reducible refine Kd.C_drewN ?_ _) | (with_reducible refine Kd.C_drew ?_))); (case side2 => exact HC0.out); rintro e w6 ⟨rfl, hb⟩; refine ⟨_, rfl, ?_⟩; have n0_ := zK (below_step zq0 hb); clear HB; have HB := n0_; clear n0_; (try clear hb); (try clear hb2); (try clear hk); (try clear hi)))
  go_ret
  exact ⟨zq3, zq0⟩
 rw [if_neg c5] at H
 have c5b0 : decide (t682 < 0) = false := decide_eq_false c5
 clear c5
 replace H := Option.bind_eq_some_iff.mp H
 obtain ⟨t683, A70, H⟩ := H
 replace H : ((spec_GenerationOf.f k t683 a1).bind fun bt686 => ((laws_toObjectS.f k l0).bind fun t689 => ((impl_GenerationOf.f k t689 a1).bind fun bt692 => ((laws_eqIntResult.f bt692.1 bt692.2 bt686.1 bt686.2).bind fun t695 => (if t695 = true then ((laws_toObjectS.f k l0).bind fun t696 => ((laws_eqObjectS.f k t689 t696).bind fun t699 => (if t699 = true then (some true) else (some false)))) else (some false)))))) = some r := H
 have A7 := zK A70
 clear A70
 replace H := Option.bind_eq_some_iff.mp H
 obtain ⟨⟨t686, t687⟩, A80, H⟩ := H
 replace H : ((laws_toObjectS.f k l0).bind fun t689 => ((impl_GenerationOf.f k t689 a1).bind fun bt692 => ((laws_eqIntResult.f bt692.1 bt692.2 t686 t687).bind fun t695 => (if t695 = true then ((laws_toObjectS.f k l0).bind fun t696 => ((laws_eqObjectS.f k t689 t696).bind fun t699 => (if t699 = true then (some true) else (some false)))) else (some false))))) = some r := H
 have A8 := zK A80
 clear A80
 replace H := Option.bind_eq_some_iff.mp H
 obtain ⟨t689, A90, H⟩ := H
 replace H : ((impl_GenerationOf.f k t689 a1).bind fun bt692 => ((laws_eqIntResult.f bt692.1 bt692.2 t686 t687).bind fun t695 => (if t695 = true then ((laws_toObjectS.f k l0).bind fun t696 => ((laws_eqObjectS.f k t689 t696).bind fun t699 => (if t699 = true then (some true) else (some false)))) else (some false)))) = some r := H
 have A9 := zK A90
 clear A90
 replace H := Option.bind_eq_some_iff.mp H
 obtain ⟨⟨t692, t693⟩, A100, H⟩ := H
 replace H : ((laws_eqIntResult.f t692 t693 t686 t687).bind fun t695 => (if t695 = true then ((laws_toObjectS.f k l0).bind fun t696 => ((laws_eqObjectS.f k t689 t696).bind fun t699 => (if t699 = true then (some true) else (some false)))) else (some false))) = some r := H
 have A10 := zK A100
 clear A100
 replace H := Option.bind_eq_some_iff.mp H
 obtain ⟨t695, A110, H⟩ := H
 replace H : (if t695 = true then ((laws_toObjectS.f k l0).bind fun t696 => ((laws_eqObjectS.f k t689 t696).bind fun t699 => (if t699 = true then (some true) else (some false)))) else (some false)) = some r := H
 have A11 := zK A110
 clear A110
 by_cases c12 : t695 = true
 ·
  subst c12
  have H1 : ((laws_toObjectS.f k l0).bind fun t696 => ((laws_eqObjectS.f k t689 t696).bind fun t699 => (if t699 = true then (some true) else (some false)))) = some r := by rw [if_pos rfl] at H; exact H
  clear H
  have H := H1
  clear H1
  replace H := Option.bind_eq_some_iff.mp H
  obtain ⟨t696, A130, H⟩ := H
  replace H : ((laws_eqObjectS.f k t689 t696).bind fun t699 => (if t699 = true then (some true) else (some false))) = some r := H
  have A13 := zK A130
  clear A130
  replace H := Option.bind_eq_some_iff.mp H
  obtain ⟨t699, A140, H⟩ := H
  replace H : (if t699 = true then (some true) else (some false)) = some r := H
  have A14 := zK A140
  clear A140
  by_cases c15 : t699 = true
  ·
   subst c15
   have H1 : (some true) = some r := by rw [if_pos rfl] at H; exact H
   clear H
   have H := H1
   clear H1
   obtain rfl := Option.some.inj H
   go_enter Tryz.func5, Tryz.ntmps5
   go_wp2_with (first | ((with_reducible refine gate_callee (f := 8) rfl ?_); refine goesL_ (some 14) rfl rfl Tryz.func8 zq5 rfl #[.slice A0 l0.length c0, .int .i64 1048576] rfl zq1 ?_; (with_reducible refine (laws_szObjectS.calls k _ _ l0 1048576 t682 _ ?side1 ?side2 A4.out).mono ?_); (case side1 => repeat (first | exact HR0.out | (with_reducible refine Kd.C_alloc ?_ _) | (with_reducible refine Kd.C_drewN ?_ _) | (with_reducible refine Kd.C_drew ?_))); (case side2 => exact HC0.out); rintro e w16 ⟨rfl, hb⟩; refine ⟨_, rfl, ?_⟩; have n0_ := zK (below_step zq0 hb); clear HB; have HB := n0_; clear n0_; (try clear hb); (try clear hb2); (try clear hk); (try clear hi)) | ((with_reducible refine gate_callee (f := 10) rfl ?_); refine goesL_ (some 18) rfl rfl Tryz.func10 zq5 rfl #[.slice A0 l0.length c0] rfl zq1 ?_; (with_reducible refine (laws_toObjectS.calls k _ _ l0 t683 _ ?side1 ?side2 A7.out).mono ?_); (case side1 => repeat (first | exact (Kd.C_below HR0.out HB.out) | (with_reducible refine Kd.C_alloc ?_ _) | (with_reducible refine Kd.C_drewN ?_ _) | (with_reducible refine Kd.C_drew ?_))); (case side2 => exact HC0.out); rintro e w17 ⟨v684, rfl, ho0, hb⟩; refine ⟨_, rfl, ?_⟩; have n0_ := zK (Kd.R_lower ho0 (below_size zq0)); have n1_ := zK (below_step zq0 hb); clear HB; have HO685 := n0_; have HB := n1_; clear n0_ n1_; (try clear hb); (try clear hb2); (try clear hk); (try clear hi); (try clear ho0); obtain ⟨Ao18, co18, eo18⟩ := Kd.R_slice HO685.out; subst eo18) | ((with_reducible refine gate_callee (f := 19) rfl ?_); refine goesL_ (some 20) rfl rfl Tryz.func19 zq5 rfl #[.slice Ao18 t683.length co18, .string a1] rfl zq1 ?_; (with_reducible refine (spec_GenerationOf.calls k _ _ t683 a1 t686 t687 _ ?side1 ?side2 A8.out).mono ?_); (case side1 => repeat (first | exact (Kd.R_reads' HO685.out).2.2 | (with_reducible refine Kd.C_alloc ?_ _) | (with_reducible refine Kd.C_drewN ?_ _) | (with_reducible refine Kd.C_drew ?_))); (case side2 => exact (Kd.R_reads' HO685.out).2.1); rintro e w19 ⟨rfl, hb⟩; refine ⟨_, rfl, ?_⟩; have n0_ := zK (Kd.R_below zq14 hb); have n1_ := zK (below_step zq0 hb); clear HO685; clear HB; have HO685 := n0_; have HB := n1_; clear n0_ n1_; (try clear hb); (try clear hb2); (try clear hk); (try clear hi)) | ((with_reducible refine gate_dst (N := 6) rfl ?_); refine box_event ?hg (N := 6) ?hd (cs := #[.int .i64 0, .int .i64 0]) (t := 38) ?hr ?_; (case hd => rfl); (case hg => rfl); (case hr => first | (go_simp; done) | (go_simp; rfl)); intro gb688 hg w20 hbox hb; have n0_ := zK (Kd.R_below zq14 hb); have n1_ := zK (below_step zq0 hb); have n2_ := zK (hbox); have n3_ := zK ((by rw [hg]; exact (below_size zq0) : w.heap.size ≤ gb688)); have n4_ := zK ((by rw [hg]; exact (below_size zq0) : w.heap.size ≤ gb688)); clear HO685; clear HB; have HO685 := n0_; have HB := n1_; have BK688 := n2_; have GW688 := n3_; have GE688 := n4_; clear n0_ n1_ n2_ n3_ n4_; clear hb hbox hg; have hcz21_0 : w20.cell? ⟨gb688, 0, none⟩ = some (.int .i64 0) := (blk_cell BK688.out 0).trans rfl; have hcz21_1 : w20.cell? ⟨gb688, 1, none⟩ = some (.int .i64 0) := (blk_cell BK688.out 1).trans rfl; have hfz21_0 := blk_frozen BK688.out 0; have hfz21_1 := blk_frozen BK688.out 1) | ((with_reducible refine gate_callee (f := 10) rfl ?_); refine goesL_ (some 22) rfl rfl Tryz.func10 zq5 rfl #[.slice A0 l0.length c0] rfl zq1 ?_; (with_reducible refine (laws_toObjectS.calls k _ _ l0 t689 _ ?side1 ?side2 A9.out).mono ?_); (case side1 => exact Kd.C_below HR0.out (by repeat (first | (with_reducible first | exact HB.out | apply zA | apply zN | apply zD | refine below_set ?_ GE688.out) | exact HB.out))); (case side2 => exact HC0.out); rintro e w22 ⟨v690, rfl, ho0, hb⟩; refine ⟨_, rfl, ?_⟩; have n0_ := zK (Kd.R_elder' (by (with_reducible repeat (first | apply zR | apply zV | apply zW)); exact (Kd.R_mono (Kd.R_far (p := ⟨gb688, 1, none⟩) (Kd.R_far (p := ⟨gb688, 0, none⟩) (Kd.R_types HO685.out BK688.out zq10) (fun _ hk => hk.2) (.int .i64 t686)) (fun _ hk => hk.2) (.int .i64 t687)) (fun _ h_ => h_.1))) (Kd.R_base ho0) hb); have n1_ := zK (Kd.R_lower (Kd.R_new' ho0 (Kd.R_lt (by (with_reducible repeat (first | apply zR | apply zV | apply zW)); exact (Kd.R_mono (Kd.R_far (p := ⟨gb688, 1, none⟩) (Kd.R_far (p := ⟨gb688, 0, none⟩) (Kd.R_types HO685.out BK688.out zq10) (fun _ hk => hk.2) (.int .i64 t686)) (fun _ hk => hk.2) (.int .i64 t687)) (fun _ h_ => h_.1))))) (below_size (by repeat (first | (with_reducible first | exact HB.out | apply zA | apply zN | apply zD | refine below_set ?_ GE688.out) | exact HB.out)))); have n2_ := zK (blk_below (g := gb688) (o := .cells #[.int .i64 t686, .int .i64 t687] 38 (0, 0)) (by (with_reducible repeat (first | refine zM ?_ _ | refine zP ?_ | refine zQ ?_ _)); refine blk_put (cs := #[.int .i64 t686, .int .i64 0]) ?_ 1 _ rfl; (with_reducible repeat (first | refine zM ?_ _ | refine zP ?_ | refine zQ ?_ _)); refine blk_put (cs := #[.int .i64 0, .int .i64 0]) ?_ 0 _ rfl; (with_reducible repeat (first | refine zM ?_ _ | refine zP ?_ | refine zQ ?_ _)); exact BK688.out) hb); have n3_ := zK (below_step (by repeat (first | (with_reducible first | exact HB.out | apply zA | apply zN | apply zD | refine below_set ?_ GE688.out) | exact HB.out)) hb); clear HO685; clear BK688; clear HB; have HO685 := n0_; have HO691 := n1_; have BK688 := n2_; have HB := n3_; clear n0_ n1_ n2_ n3_; (try clear hb); (try clear hb2); (try clear hk); (try clear hi); (try clear ho0); obtain ⟨Ao23, co23, eo23⟩ := Kd.R_slice HO691.out; subst eo23) | ((with_reducible refine gate_callee (f := 20) rfl ?_); refine goesL_ (some 25) rfl rfl Tryz.func20 zq5 rfl #[.slice Ao23 t689.length co23, .string a1] rfl zq1 ?_; (with_reducible refine (impl_GenerationOf.calls k _ _ t689 a1 t692 t693 _ ?side1 ?side2 (Gt.below HG.out (by repeat (first | (with_reducible first | exact HB.out | apply zA | apply zN | apply zD | refine below_set ?_ GE688.out) | exact HB.out))) A10.out).mono ?_); (case side1 => repeat (first | exact (Kd.R_reads' HO691.out).2.2 | (with_reducible refine Kd.C_alloc ?_ _) | (with_reducible refine Kd.C_drewN ?_ _) | (with_reducible refine Kd.C_drew ?_))); (case side2 => exact (Kd.R_reads' HO691.out).2.1); rintro e w24 ⟨rfl, hb⟩; refine ⟨_, rfl, ?_⟩; have n0_ := zK (Kd.R_below zq14 hb); have n1_ := zK (Kd.R_below zq19 hb); have n2_ := zK (blk_below (g := gb688) (o := .cells #[.int .i64 t686, .int .i64 t687] 38 (0, 0)) (by (with_reducible repeat (first | refine zM ?_ _ | refine zP ?_ | refine zQ ?_ _)); exact BK688.out) hb); have n3_ := zK (below_step (by repeat (first | (with_reducible first | exact HB.out | apply zA | apply zN | apply zD | refine below_set ?_ GE688.out) | exact HB.out)) hb); clear HO685; clear HO691; clear BK688; clear HB; have HO685 := n0_; have HO691 := n1_; have BK688 := n2_; have HB := n3_; clear n0_ n1_ n2_ n3_; (try clear hb); (try clear hb2); (try clear hk); (try clear hi)) | ((with_reducible refine gate_dst (N := 8) rfl ?_); refine box_event ?hg (N := 8) ?hd (cs := #[.int .i64 0, .int .i64 0]) (t := 38) ?hr ?_; (case hd => rfl); (case hg => rfl); (case hr => first | (go_simp; done) | (go_simp; rfl)); intro gb694 hg w25 hbox hb; have n0_ := zK (Kd.R_below zq14 hb); have n1_ := zK (Kd.R_below zq19 hb); have n2_ := zK (blk_below (g := gb688) (o := .cells #[.int .i64 t686, .int .i64 t687] 38 (0, 0)) (by (with_reducible repeat (first | refine zM ?_ _ | refine zP ?_ | refine zQ ?_ _)); exact BK688.out) hb); have n3_ := zK (below_step (by repeat (first | (with_reducible first | exact HB.out | apply zA | apply zN | apply zD | refine below_set ?_ GE688.out) | exact HB.out)) hb); have n4_ := zK (hbox); have n5_ := zK ((by rw [hg]; exact (below_size (by repeat (first | (with_reducible first | exact HB.out | apply zA | apply zN | apply zD | refine below_set ?_ GE688.out) | exact HB.out))) : w.heap.size ≤ gb694)); have n6_ := zK ((by rw [hg]; exact (below_size (by repeat (first | (with_reducible first | exact HB.out | apply zA | apply zN | apply zD | refine below_set ?_ GE688.out) | exact HB.out))) : w.heap.size ≤ gb694)); have n7_ := zK ((by rw [hg]; exact Nat.ne_of_lt (blk_lt (g := gb688) (o := .cells #[.int .i64 t686, .int .i64 t687] 38 (0, 0)) (by (with_reducible repeat (first | refine zM ?_ _ | refine zP ?_ | refine zQ ?_ _)); exact BK688.out)) : gb688 ≠ gb694)); have n8_ := zK ((by rw [hg]; exact Nat.ne_of_gt (blk_lt (g := gb688) (o := .cells #[.int .i64 t686, .int .i64 t687] 38 (0, 0)) (by (with_reducible repeat (first | refine zM ?_ _ | refine zP ?_ | refine zQ ?_ _)); exact BK688.out)) : gb694 ≠ gb688)); clear HO685; clear HO691; clear BK688; clear HB; have HO685 := n0_; have HO691 := n1_; have BK688 := n2_; have HB := n3_; have BK694 := n4_; have GW694 := n5_; have GE694 := n6_; have NB688_694 := n7_; have NB694_688 := n8_; clear n0_ n1_ n2_ n3_ n4_ n5_ n6_ n7_ n8_; clear hb hbox hg; have hnb26 := NB694_688.out; have hnc26 := NB688_694.out; have hcz27_0 : w25.cell? ⟨gb694, 0, none⟩ = some (.int .i64 0) := (blk_cell BK694.out 0).trans rfl; have hcz27_1 : w25.cell? ⟨gb694, 1, none⟩ = some (.int .i64 0) := (blk_cell BK694.out 1).trans rfl; have hfz27_0 := blk_frozen BK694.out 0; have hfz27_1 := blk_frozen BK694.out 1; have hcz28_0 : w25.cell? ⟨gb688, 0, none⟩ = some (.int .i64 t686) := (blk_cell BK688.out 0).trans rfl; have hcz28_1 : w25.cell? ⟨gb688, 1, none⟩ = some (.int .i64 t687) := (blk_cell BK688.out 1).trans rfl; have hfz28_0 := blk_frozen BK688.out 0; have hfz28_1 := blk_frozen BK688.out 1) | ((with_reducible refine gate_callee (f := 21) rfl ?_); refine goesL_ (some 28) rfl rfl Tryz.func21 zq5 rfl #[.agg #[.int .i64 t692, .int .i64 t693], .agg #[.int .i64 t686, .int .i64 t687]] rfl zq1 ?_; (with_reducible refine (laws_eqIntResult.calls t692 t693 t686 t687 true _ A11.out).mono ?_); rintro e w29 ⟨rfl, hb⟩; refine ⟨_, rfl, ?_⟩; have n0_ := zK (Kd.R_below (by (with_reducible repeat (first | apply zR | apply zV | apply zW)); exact (Kd.R_mono (Kd.R_far (p := ⟨gb694, 1, none⟩) (Kd.R_far (p := ⟨gb694, 0, none⟩) (Kd.R_types HO685.out BK694.out zq10) (fun _ hk => hk.2) (.int .i64 t692)) (fun _ hk => hk.2) (.int .i64 t693)) (fun _ h_ => h_.1))) hb); have n1_ := zK (Kd.R_below (by (with_reducible repeat (first | apply zR | apply zV | apply zW)); exact (Kd.R_mono (Kd.R_far (p := ⟨gb694, 1, none⟩) (Kd.R_far (p := ⟨gb694, 0, none⟩) (Kd.R_types HO691.out BK694.out zq10) (fun _ hk => hk.2) (.int .i64 t692)) (fun _ hk => hk.2) (.int .i64 t693)) (fun _ h_ => h_.1))) hb); have n2_ := zK (blk_below (g := gb688) (o := .cells #[.int .i64 t686, .int .i64 t687] 38 (0, 0)) (by (with_reducible repeat (first | refine zM ?_ _ | refine zP ?_ | refine zQ ?_ _)); refine blk_far ?_ NB688_694.out _; (with_reducible repeat (first | refine zM ?_ _ | refine zP ?_ | refine zQ ?_ _)); refine blk_far ?_ NB688_694.out _; (with_reducible repeat (first | refine zM ?_ _ | refine zP ?_ | refine zQ ?_ _)); exact BK688.out) hb); have n3_ := zK (blk_below (g := gb694) (o := .cells #[.int .i64 t692, .int .i64 t693] 38 (0, 0)) (by (with_reducible repeat (first | refine zM ?_ _ | refine zP ?_ | refine zQ ?_ _)); refine blk_put (cs := #[.int .i64 t692, .int .i64 0]) ?_ 1 _ rfl; (with_reducible repeat (first | refine zM ?_ _ | refine zP ?_ | refine zQ ?_ _)); refine blk_put (cs := #[.int .i64 0, .int .i64 0]) ?_ 0 _ rfl; (with_reducible repeat (first | refine zM ?_ _ | refine zP ?_ | refine zQ ?_ _)); exact BK694.out) hb); have n4_ := zK (below_step (by repeat (first | (with_reducible first | exact HB.out | apply zA | apply zN | apply zD | refine below_set ?_ GE688.out | refine below_set ?_ GE694.out) | exact HB.out)) hb); clear HO685; clear HO691; clear BK688; clear BK694; clear HB; have HO685 := n0_; have HO691 := n1_; have BK688 := n2_; have BK694 := n3_; have HB := n4_; clear n0_ n1_ n2_ n3_ n4_; (try clear hb); (try clear hb2); (try clear hk); (try clear hi)) | ((with_reducible refine gate_callee (f := 10) rfl ?_); refine goesL_ (some 32) rfl rfl Tryz.func10 zq5 rfl #[.slice A0 l0.length c0] rfl zq1 ?_; (with_reducible refine (laws_toObjectS.calls k _ _ l0 t696 _ ?side1 ?side2 A13.out).mono ?_); (case side1 => repeat (first | exact (Kd.C_below HR0.out HB.out) | (with_reducible refine Kd.C_alloc ?_ _) | (with_reducible refine Kd.C_drewN ?_ _) | (with_reducible refine Kd.C_drew ?_))); (case side2 => exact HC0.out); rintro e w30 ⟨v697, rfl, ho0, hb⟩; refine ⟨_, rfl, ?_⟩; have n0_ := zK (Kd.R_elder' zq14 (Kd.R_base ho0) hb); have n1_ := zK (Kd.R_elder' zq19 (Kd.R_base ho0) hb); have n2_ := zK (Kd.R_lower (Kd.R_new' (Kd.R_new' ho0 (Kd.R_lt zq14)) (Kd.R_lt zq19)) (below_size (by repeat (first | (with_reducible first | exact HB.out | apply zA | apply zN | apply zD | refine below_set ?_ GE688.out | refine below_set ?_ GE694.out) | exact HB.out)))); have n3_ := zK (blk_below (g := gb688) (o := .cells #[.int .i64 t686, .int .i64 t687] 38 (0, 0)) (by (with_reducible repeat (first | refine zM ?_ _ | refine zP ?_ | refine zQ ?_ _)); exact BK688.out) hb); have n4_ := zK (blk_below (g := gb694) (o := .cells #[.int .i64 t692, .int .i64 t693] 38 (0, 0)) (by (with_reducible repeat (first | refine zM ?_ _ | refine zP ?_ | refine zQ ?_ _)); exact BK694.out) hb); have n5_ := zK (below_step (by repeat (first | (with_reducible first | exact HB.out | apply zA | apply zN | apply zD | refine below_set ?_ GE688.out | refine below_set ?_ GE694.out) | exact HB.out)) hb); clear HO685; clear HO691; clear BK688; clear BK694; clear HB; have HO685 := n0_; have HO691 := n1_; have HO698 := n2_; have BK688 := n3_; have BK694 := n4_; have HB := n5_; clear n0_ n1_ n2_ n3_ n4_ n5_; (try clear hb); (try clear hb2); (try clear hk); (try clear hi); (try clear ho0); obtain ⟨Ao31, co31, eo31⟩ := Kd.R_slice HO698.out; subst eo31) | ((with_reducible refine gate_callee (f := 12) rfl ?_); refine goesL_ (some 33) rfl rfl Tryz.func12 zq5 rfl #[.slice Ao23 t689.length co23, .slice Ao31 t696.length co31] rfl zq1 ?_; (with_reducible refine (laws_eqObjectS.calls k _ _ t689 _ _ t696 true _ ?side1 ?side2 ?side3 ?side4 A14.out).mono ?_); (case side1 => repeat (first | exact (Kd.R_reads' HO691.out).2.2 | (with_reducible refine Kd.C_alloc ?_ _) | (with_reducible refine Kd.C_drewN ?_ _) | (with_reducible refine Kd.C_drew ?_))); (case side2 => exact (Kd.R_reads' HO691.out).2.1); (case side3 => repeat (first | exact (Kd.R_reads' HO698.out).2.2 | (with_reducible refine Kd.C_alloc ?_ _) | (with_reducible refine Kd.C_drewN ?_ _) | (with_reducible refine Kd.C_drew ?_))); (case side4 => exact (Kd.R_reads' HO698.out).2.1); rintro e w32 ⟨rfl, hb⟩; refine ⟨_, rfl, ?_⟩; have n0_ := zK (Kd.R_below zq14 hb); have n1_ := zK (Kd.R_below zq19 hb); have n2_ := zK (Kd.R_below (by (with_reducible repeat (first | apply zR | apply zV | apply zW)); exact HO698.out) hb); have n3_ := zK (blk_below (g := gb688) (o := .cells #[.int .i64 t686, .int .i64 t687] 38 (0, 0)) (by (with_reducible repeat (first | refine zM ?_ _ | refine zP ?_ | refine zQ ?_ _)); exact BK688.out) hb); have n4_ := zK (blk_below (g := gb694) (o := .cells #[.int .i64 t692, .int .i64 t693] 38 (0, 0)) (by (with_reducible repeat (first | refine zM ?_ _ | refine zP ?_ | refine zQ ?_ _)); exact BK694.out) hb); have n5_ := zK (below_step (by repeat (first | (with_reducible first | exact HB.out | apply zA | apply zN | apply zD | refine below_set ?_ GE688.out | refine below_set ?_ GE694.out) | exact HB.out)) hb); clear HO685; clear HO691; clear HO698; clear BK688; clear BK694; clear HB; have HO685 := n0_; have HO691 := n1_; have HO698 := n2_; have BK688 := n3_; have BK694 := n4_; have HB := n5_; clear n0_ n1_ n2_ n3_ n4_ n5_; (try clear hb); (try clear hb2); (try clear hk); (try clear hi)))
   go_ret
   exact ⟨zq3, (by repeat (first | (with_reducible first | exact HB.out | apply zA | apply zN | apply zD | refine below_set ?_ GE688.out | refine below_set ?_ GE694.out) | exact HB.out))⟩
  replace c15 := Bool.eq_false_iff.mpr c15
  subst c15
  have H1 : (some false) = some r := by rw [if_neg (show ¬ (false = true) by decide)] at H; exact H
  clear H
  have H := H1
  clear H1
  exact absurd ((Option.some.inj H).trans hT_) zq10
 replace c12 := Bool.eq_false_iff.mpr c12
 subst c12
 have H1 : (some false) = some r := by rw [if_neg (show ¬ (false = true) by decide)] at H; exact H
 clear H
 have H := H1
 clear H1
 exact absurd ((Option.some.inj H).trans hT_) zq10
end Go.Proofs.YtpnoghcdfbmpoaaGreatDoor.PX

namespace Go.Proofs.YtpnoghcdfbmpoaaGreatDoorX
open Go Go.RowKit Go.Proofs.YtpnoghcdfbmpoaaGreatDoorW.PrintWords Go.Proofs.YtpnoghcdfbmpoaaGreatDoor.PX
open Go.Proofs.YtpnoghcdfbmpoaaGreatDoor.PX.X (CmR parsC okO cmS cmS_all cmS_eq rdS)
set_option linter.unusedVariables false
def upd (g : ByteArray → Int) (x : ByteArray) (v : Int) : ByteArray → Int := fun y => if y = x then v else g y
def nv (cm : ByteArray → CmR) (g : ByteArray → Int) (x : ByteArray) : Int := most g (parsC (cm x)) 0 + 1
def rndG (cm : ByteArray → CmR) : List ByteArray → (ByteArray → Int) → Bool → (ByteArray → Int) × Bool
 | [], g, t => (g, t)
 | x :: xs, g, t => if g x = nv cm g x then rndG cm xs g t else rndG cm xs (upd g x (nv cm g x)) true
variable {cm : ByteArray → CmR} {X : List ByteArray}
theorem rnd_true : ∀ (xs : List ByteArray) (g : ByteArray → Int), (rndG cm xs g true).2 = true
 | [], g => rfl
 | x :: xs, g => by
   unfold rndG
   split
   · exact rnd_true xs g
   · exact rnd_true xs _
theorem rnd_fix : ∀ (xs : List ByteArray) (g : ByteArray → Int), (rndG cm xs g false).2 = false → (rndG cm xs g false).1 = g ∧ ∀ x ∈ xs, g x = nv cm g x
 | [], g, _ => ⟨rfl, fun x hx => by cases hx⟩
 | x :: xs, g, h => by
   unfold rndG at h ⊢
   by_cases e : g x = nv cm g x
   · rw [if_pos e] at h ⊢
     obtain ⟨h1, h2⟩ := rnd_fix xs g h
     refine ⟨h1, fun y hy => ?_⟩
     rcases List.mem_cons.1 hy with hy | hy
     · rw [hy]
       exact e
     · exact h2 y hy
   · rw [if_neg e] at h
     rw [rnd_true] at h
     cases h
theorem nv_bound {g : ByteArray → Int} {B : Int} (hB : 0 ≤ B) (h : ∀ y, 0 ≤ g y ∧ g y ≤ B) (x : ByteArray) : 1 ≤ nv cm g x ∧ nv cm g x ≤ B + 1 := by
 have h1 := most_ge g (parsC (cm x)) 0
 have h2 := most_le g B (parsC (cm x)) 0 hB (fun p _ => (h p).2)
 unfold nv
 omega
theorem upd_bound {g : ByteArray → Int} {B : Int} (h : ∀ y, 0 ≤ g y ∧ g y ≤ B) {x : ByteArray} {v : Int} (hv : 0 ≤ v ∧ v ≤ B + 1) (y : ByteArray) : 0 ≤ upd g x v y ∧ upd g x v y ≤ B + 1 := by
 unfold upd
 have := h y
 split <;> omega
theorem rnd_bound : ∀ (xs : List ByteArray) (g : ByteArray → Int) (t : Bool) (B : Int), 0 ≤ B → (∀ y, 0 ≤ g y ∧ g y ≤ B) → ∀ y, 0 ≤ (rndG cm xs g t).1 y ∧ (rndG cm xs g t).1 y ≤ B + xs.length
 | [], g, t, B, _, h => fun y => by
   have := h y
   show 0 ≤ g y ∧ g y ≤ B + ((0 : Nat) : Int)
   omega
 | x :: xs, g, t, B, hB, h => fun y => by
   unfold rndG
   rw [List.length_cons]
   split
   · have := rnd_bound xs g t B hB h y
     omega
   · have hn := nv_bound (cm := cm) hB h x
     have := rnd_bound xs _ true (B + 1) zq6 (upd_bound h (x := x) (v := nv cm g x) ⟨by omega, by omega⟩) y
     omega
theorem nv_hgt (hg : GoodH cm X) {g : ByteArray → Int} {x : ByteArray} (hx : x ∈ X) (h : ∀ p ∈ parsC (cm x), g p = hgt cm p) : nv cm g x = hgt cm x := by
 unfold nv
 rw [most_congr g (hgt cm) _ _ h, ← hgt_eq hg hx]
theorem rnd_level (hg : GoodH cm X) (r : Int) : ∀ (xs : List ByteArray) (g : ByteArray → Int) (t : Bool), (∀ x ∈ xs, x ∈ X) → (∀ x ∈ X, hgt cm x ≤ r → g x = hgt cm x) →
 ∀ x ∈ X, hgt cm x ≤ r + 1 → (g x = hgt cm x ∨ x ∈ xs) → (rndG cm xs g t).1 x = hgt cm x
 | [], g, t, _, _, x, hx, hr, h => by
   rcases h with h | h
   · exact h
   · cases h
 | z :: zs, g, t, hs, hr0, x, hx, hr, h => by
   have hz := hs z List.mem_cons_self
   have hnv : hgt cm z ≤ r + 1 → nv cm g z = hgt cm z := fun hzr => nv_hgt hg hz (fun p hp => hr0 p (hg.closed z hz p hp) (by have := hgt_par hg hz hp; omega))
   unfold rndG
   by_cases e : g z = nv cm g z
   · rw [if_pos e]
     refine rnd_level hg r zs g t (fun y hy => hs y (List.mem_cons_of_mem _ hy)) hr0 x hx hr ?_
     rcases h with h | h
     · exact .inl h
     · rcases List.mem_cons.1 h with h | h
       · exact .inl (by rw [h] at hr ⊢; rw [e, hnv hr])
       · exact .inr h
   · rw [if_neg e]
     refine rnd_level hg r zs _ true (fun y hy => hs y (List.mem_cons_of_mem _ hy)) (fun y hy hyr => ?_) x hx hr ?_
     · unfold upd
       by_cases hyz : y = z
       · rw [if_pos hyz, hyz]
         exact hnv (by rw [hyz] at hyr; omega)
       · rw [if_neg hyz]
         exact hr0 y hy hyr
     · by_cases hxz : x = z
       · refine .inl ?_
         unfold upd
         rw [if_pos hxz, hxz]
         exact hnv (by rw [hxz] at hr; exact hr)
       · rcases h with h | h
         · refine .inl ?_
           unfold upd
           rw [if_neg hxz]
           exact h
         · rcases List.mem_cons.1 h with h | h
           · exact absurd h hxz
           · exact .inr h
theorem fix_hgt (hg : GoodH cm X) {g : ByteArray → Int} (h : ∀ x ∈ X, g x = nv cm g x) : ∀ (n : Nat) (x : ByteArray), x ∈ X → rk cm X x ≤ n → g x = hgt cm x
 | 0, x, hx, hn => absurd (rk_pos (cm := cm) hx) zq6
 | n + 1, x, hx, hn => by
   rw [h x hx]
   exact nv_hgt hg hx (fun p hp => fix_hgt hg h n p (hg.closed x hx p hp) (by have := rk_lt hg hx hp; omega))
theorem fix_free (hc : ∀ x ∈ X, ∀ p ∈ parsC (cm x), p ∈ X) {g : ByteArray → Int} (h : ∀ x ∈ X, g x = nv cm g x) {x p : ByteArray} (hx : x ∈ X) (hp : p ∈ parsC (cm x)) : ¬ Gets cm p x := by
 have hlt : ∀ x ∈ X, ∀ p ∈ parsC (cm x), g p < g x := fun x hx p hp => by
  rw [h x hx]
  have := most_mem g (parsC (cm x)) 0 p hp
  unfold nv
  omega
 have hle : ∀ (n : Nat) (x y : ByteArray), x ∈ X → stepsTo cm n x y → g y ≤ g x := by
  intro n
  induction n with
  | zero =>
    intro x y _ hs
    have e : x = y := hs
    rw [e]
    exact Int.le_refl _
  | succ n ih =>
    intro x y hx hs
    obtain ⟨q, hq, hs⟩ := hs
    have h1 := ih q y (hc x hx q hq) hs
    have h2 := hlt x hx q hq
    omega
 rintro ⟨n, hs⟩
 have h1 := hle n p x (hc x hx p hp) hs
 have h2 := hlt x hx p hp
 omega
open Go.Proofs.YtpnoghcdfbmpoaaGreatDoor.PX.X (CmR parsC okO cmS cmS_all cmS_eq rdS drop_getS)
set_option linter.unusedVariables false
set_option linter.unusedSimpArgs false
theorem max_mx (a b : Int) : spec_l1Max.f a b = some (mx a b) := by
 unfold spec_l1Max.f mx
 by_cases h : a > b
 · rw [if_pos h, if_neg zq6]
 · rw [if_neg h]
   by_cases h2 : a < b
   · rw [if_pos h2]
   · rw [if_neg h2, show a = b by omega]
theorem rd_mapG (X : List ByteArray) (g : ByteArray → Int) (j : Nat) (hj : j < X.length) : rd (X.map g) (j : Int) = g (X.getD j ByteArray.empty) := by
 show (X.map g).getD ((j : Int)).toNat 0 = _
 rw [Int.toNat_natCast, List.getD_eq_getElem?_getD, List.getElem?_map, List.getElem?_eq_getElem hj, List.getD_eq_getElem?_getD, List.getElem?_eq_getElem hj]
 rfl
theorem getG_mem {X : List ByteArray} {j : Nat} (hj : j < X.length) : X.getD j ByteArray.empty ∈ X := by
 rw [List.getD_eq_getElem?_getD, List.getElem?_eq_getElem hj, Option.getD_some]
 exact List.getElem_mem hj
theorem map_upd_not (g : ByteArray → Int) (x : ByteArray) (v : Int) : ∀ (X : List ByteArray), x ∉ X → X.map (upd g x v) = X.map g
 | X, h => List.map_congr_left (fun y hy => by unfold upd; rw [if_neg (fun z : y = x => h (z ▸ hy))])
theorem set_map (g : ByteArray → Int) (v : Int) : ∀ (X : List ByteArray) (i : Nat), X.Nodup → i < X.length → (X.map g).set i v = X.map (upd g (X.getD i ByteArray.empty) v)
 | x :: X, 0, hn, _ => by
   have h1 := (List.nodup_cons.1 hn).1
   show v :: X.map g = upd g x v x :: X.map (upd g x v)
   rw [map_upd_not g x v X h1]
   unfold upd
   rw [if_pos rfl]
 | x :: X, i + 1, hn, hi => by
   have h1 := List.nodup_cons.1 hn
   have hi' : i < X.length := by rw [List.length_cons] at hi; omega
   show g x :: (X.map g).set i v = upd g (X.getD i ByteArray.empty) v x :: X.map (upd g (X.getD i ByteArray.empty) v)
   rw [set_map g v X i h1.2 hi']
   congr 1
   unfold upd
   rw [if_neg (fun z : x = X.getD i ByteArray.empty => h1.1 (z ▸ getG_mem hi'))]
def lookG (g : ByteArray → Int) (p : ByteArray) : List ByteArray → Int → Int
 | [], n => n
 | y :: Y, n => lookG g p Y (if y = p then mx n (g y) else n)
theorem look_not (g : ByteArray → Int) (p : ByteArray) : ∀ (Y : List ByteArray) (n : Int), p ∉ Y → lookG g p Y n = n
 | [], n, _ => rfl
 | y :: Y, n, h => by
   unfold lookG
   rw [if_neg (fun z : y = p => h (z ▸ List.mem_cons_self))]
   exact look_not g p Y n (fun z => h (List.mem_cons_of_mem _ z))
theorem look_eq (g : ByteArray → Int) (p : ByteArray) : ∀ (Y : List ByteArray) (n : Int), Y.Nodup → p ∈ Y → lookG g p Y n = mx n (g p)
 | y :: Y, n, hn, h => by
   have h1 := List.nodup_cons.1 hn
   unfold lookG
   by_cases e : y = p
   · rw [if_pos e, e]
     exact look_not g p Y _ (e ▸ h1.1)
   · rw [if_neg e]
     rcases List.mem_cons.1 h with h | h
     · exact absurd h.symm e
     · exact look_eq g p Y n h1.2 h
section
variable (l : List IObj) (id : ByteArray) (X : List ByteArray) (hn : X.Nodup) (hX : X.length ≤ 100)
include hX in
theorem gen_l3 (g : ByteArray → Int) (r : Int) (t : Bool) (i : Int) (a : Nat) (c1 : ByteArray) (ps : List ByteArray) (c3 : Int) (c4 : ByteArray) (ha : a < ps.length) (K : Nat) (Rr : Int × Int) :
 ∀ (d j : Nat) (n : Int), j + d = X.length → (∀ k, K ≤ k → spec_GenerationOf.l2 k l id X (X.map g) r t i (lookG g (ps.getD a ByteArray.empty) (X.drop j) n) (wrap64 ((a : Int) + 1)) c1 ps c3 c4 = some Rr) →
  ∀ k, K + d < k → spec_GenerationOf.l3 k l id X (X.map g) r t i n (a : Int) (j : Int) c1 ps c3 c4 = some Rr
 | 0, j, n, hj, hR, k, hk => by
   obtain ⟨k, rfl⟩ : ∃ m, k = m + 1 := ⟨k - 1, by omega⟩
   have := hR k zq6
   rw [List.drop_eq_nil_of_le zq6] at this
   rw [spec_GenerationOf.l3, if_neg zq6]
   exact this
 | d + 1, j, n, hj, hR, k, hk => by
   obtain ⟨k, rfl⟩ : ∃ m, k = m + 1 := ⟨k - 1, by omega⟩
   have hw : wrap64 ((j : Int) + 1) = ((j + 1 : Nat) : Int) := (wrap_in zq6 zq6).trans zq6
   have hlm : ((X.map g).length : Int) = X.length := by rw [List.length_map]
   rw [spec_GenerationOf.l3, if_pos zq6, if_pos zq6, if_pos zq6, if_pos zq6, rdS, rdS, hw, hlm]
   rw [drop_getS X j zq6] at hR
   by_cases e : X.getD j ByteArray.empty = ps.getD a ByteArray.empty
   · rw [if_pos (congrArg ByteArray.toList e), if_pos zq6, rd_mapG X g j zq6, max_mx, Option.bind_some]
     refine gen_l3 g r t i a c1 ps c3 c4 ha K Rr d (j + 1) _ zq6 (fun k hk => ?_) k zq6
     have := hR k hk
     unfold lookG at this
     rw [if_pos e] at this
     exact this
   · rw [if_neg (fun z => e (toList_inj z))]
     refine gen_l3 g r t i a c1 ps c3 c4 ha K Rr d (j + 1) _ zq6 (fun k hk => ?_) k zq6
     have := hR k hk
     unfold lookG at this
     rw [if_neg e] at this
     exact this
include hn hX in
theorem gen_l2 (g : ByteArray → Int) (B : Int) (hB : B ≤ 1000000) (hg : ∀ y, 0 ≤ g y ∧ g y ≤ B) (r : Int) (t : Bool) (i : Nat) (hi : i < X.length) (c1 : ByteArray) (ps : List ByteArray) (hps : ∀ p ∈ ps, p ∈ X) (hp3 : ps.length ≤ 3) (c3 : Int) (c4 : ByteArray) (K : Nat) (Rr : Int × Int) (V : Int)
 (hR : ∀ k, K ≤ k → (if g (X.getD i ByteArray.empty) = V + 1 then spec_GenerationOf.l1 k l id X (X.map g) r t ((i + 1 : Nat) : Int) else spec_GenerationOf.l1 k l id X (X.map (upd g (X.getD i ByteArray.empty) (V + 1))) r true ((i + 1 : Nat) : Int)) = some Rr) :
 ∀ (d a : Nat) (n : Int), a + d = ps.length → 0 ≤ n → n ≤ B → most g (ps.drop a) n = V → ∀ k, K + d * 200 < k → spec_GenerationOf.l2 k l id X (X.map g) r t (i : Int) n (a : Int) c1 ps c3 c4 = some Rr
 | 0, a, n, ha, h0, h1, hV, k, hk => by
   obtain ⟨k, rfl⟩ : ∃ m, k = m + 1 := ⟨k - 1, by omega⟩
   have q1 : ¬ (a : Int) < (ps.length : Int) := by omega
   have q2 : (0 : Int) ≤ (i : Int) := Int.natCast_nonneg i
   have q3 : (i : Int) < (X.length : Int) := by omega
   have q4 : K ≤ k := by omega
   have q5 : ps.length ≤ a := by omega
   have hw : wrap64 ((i : Int) + 1) = ((i + 1 : Nat) : Int) := (wrap_in zq6 zq6).trans zq6
   have hw2 : wrap64 (n + 1) = n + 1 := wrap_in zq6 zq6
   have hlm : ((X.map g).length : Int) = X.length := by rw [List.length_map]
   have hR2 := hR k q4
   rw [List.drop_eq_nil_of_le q5] at hV
   have hV2 : n = V := hV
   rw [← hV2] at hR2
   rw [spec_GenerationOf.l2, if_neg q1, if_pos q2, hlm, if_pos q3, rd_mapG X g i hi, hw, hw2, Int.toNat_natCast, set_map g (n + 1) X i hn hi]
   exact hR2
 | d + 1, a, n, ha, h0, h1, hV, k, hk => by
   obtain ⟨k, rfl⟩ : ∃ m, k = m + 1 := ⟨k - 1, by omega⟩
   have hw : wrap64 ((a : Int) + 1) = ((a + 1 : Nat) : Int) := (wrap_in zq6 zq6).trans zq6
   rw [spec_GenerationOf.l2, if_pos zq6]
   have hpm : ps.getD a ByteArray.empty ∈ ps := getG_mem zq6
   refine gen_l3 l id X hX g r t i a c1 ps c3 c4 zq6 (K + d * 200 + 1) Rr X.length 0 n zq6 (fun k hk => ?_) k zq6
   rw [List.drop_zero, look_eq g _ X n hn (hps _ hpm), hw]
   have hgp := hg (ps.getD a ByteArray.empty)
   refine gen_l2 g B hB hg r t i hi c1 ps hps hp3 c3 c4 K Rr V hR d (a + 1) _ zq6 (Int.le_trans h0 (mx_l _ _)) (mx_le h1 hgp.2) ?_ k zq6
   rw [drop_getS ps a zq6] at hV
   exact hV
set_option maxRecDepth 100000 in
include hn hX in
theorem gen_l1 (h : okO l) (hc : ∀ x ∈ X, ∀ p ∈ parsC (comV l x), p ∈ X) (r : Int) (K : Nat) (hK : 9000000 ≤ K) (Rr : Int × Int) :
 ∀ (xs : List ByteArray) (i : Nat) (g : ByteArray → Int) (t : Bool) (B : Int), X.drop i = xs → i + xs.length = X.length → 0 ≤ B → B + xs.length ≤ 1000000 → (∀ y, 0 ≤ g y ∧ g y ≤ B) →
  (∀ k, K ≤ k → (if (rndG (comV l) xs g t).2 = true then spec_GenerationOf.l0 k l id X (X.map (rndG (comV l) xs g t).1) (wrap64 (r + 1)) else spec_GenerationOf.l4 k l id X (X.map (rndG (comV l) xs g t).1) r 0) = some Rr) →
  ∀ k, K + xs.length * 1000 < k → spec_GenerationOf.l1 k l id X (X.map g) r t (i : Int) = some Rr := by
 intro xs
 induction xs with
 | nil =>
   intro i g t B hx hi hB hB2 hg hR k hk
   obtain ⟨k, rfl⟩ : ∃ m, k = m + 1 := ⟨k - 1, by omega⟩
   have hR2 := hR k zq6
   rw [List.length_nil] at hi
   rw [spec_GenerationOf.l1, if_neg zq6]
   exact hR2
 | cons x xs ih =>
   intro i g t B hx hi hB hB2 hg hR k hk
   obtain ⟨k, rfl⟩ : ∃ m, k = m + 1 := ⟨k - 1, by omega⟩
   rw [List.length_cons] at hi hB2 hk
   have hil : i < X.length := by omega
   have hxe : X.getD i ByteArray.empty = x ∧ X.drop (i + 1) = xs := by
    rw [drop_getS X i hil] at hx
    exact ⟨(List.cons.inj hx).1, (List.cons.inj hx).2⟩
   rw [spec_GenerationOf.l1, if_pos zq6, if_pos zq6, rdS, cmS_all h zq6, Option.bind_some, cmS_eq h, hxe.1]
   have hxm : x ∈ X := hxe.1 ▸ getG_mem hil
   refine gen_l2 l id X hn hX g B zq6 hg r t i hil _ (comV l x).2.1 (hc x hxm) (comV_len l x) _ _ (K + xs.length * 1000 + 1) Rr (most g (comV l x).2.1 0) (fun k hk => ?_) (comV l x).2.1.length 0 0 zq6 (Int.le_refl 0) hB rfl k (by have := comV_len l x; omega)
   rw [hxe.1]
   by_cases e : g x = nv (comV l) g x
   · rw [if_pos (show g x = most g (comV l x).2.1 0 + 1 from e)]
     refine ih (i + 1) g t B hxe.2 zq6 hB zq6 hg (fun k hk => ?_) k zq6
     have := hR k hk
     unfold rndG at this
     rw [if_pos e] at this
     exact this
   · rw [if_neg (show ¬ g x = most g (comV l x).2.1 0 + 1 from e)]
     have hnb := nv_bound (cm := comV l) hB hg x
     refine ih (i + 1) (upd g x (nv (comV l) g x)) true (B + 1) hxe.2 zq6 zq6 zq6 (upd_bound hg ⟨by omega, by omega⟩) (fun k hk => ?_) k zq6
     have := hR k hk
     unfold rndG at this
     rw [if_neg e] at this
     exact this
include hX in
theorem gen_l4 (g : ByteArray → Int) (r : Int) : ∀ (d j : Nat), j + d = X.length → id ∈ X.drop j → ∀ k, d < k → spec_GenerationOf.l4 k l id X (X.map g) r (j : Int) = some (0, g id)
 | 0, j, hj, hm, k, hk => by
   rw [List.drop_eq_nil_of_le zq6] at hm
   cases hm
 | d + 1, j, hj, hm, k, hk => by
   obtain ⟨k, rfl⟩ : ∃ m, k = m + 1 := ⟨k - 1, by omega⟩
   have hw : wrap64 ((j : Int) + 1) = ((j + 1 : Nat) : Int) := (wrap_in zq6 zq6).trans zq6
   have hlm : ((X.map g).length : Int) = X.length := by rw [List.length_map]
   rw [drop_getS X j zq6] at hm
   rw [spec_GenerationOf.l4, if_pos zq6, if_pos zq6, rdS, hlm, hw]
   by_cases e : X.getD j ByteArray.empty = id
   · rw [if_pos (congrArg ByteArray.toList e), if_pos zq6, rd_mapG X g j zq6, e]
   · rw [if_neg (fun z => e (toList_inj z))]
     rcases List.mem_cons.1 hm with hm | hm
     · exact absurd hm.symm e
     · exact gen_l4 g r d (j + 1) zq6 hm k zq6
set_option maxRecDepth 100000 in
include hX in
theorem gen_free (h : okO l) (hg : GoodH (comV l) X) (hid : id ∈ X) : ∀ (d r : Nat) (g : ByteArray → Int), r + d = X.length → (∀ x ∈ X, hgt (comV l) x ≤ r → g x = hgt (comV l) x) → (∀ y, 0 ≤ g y ∧ g y ≤ (r : Int) * 100) →
 ∀ k, 9000001 + (d + 1) * 200000 < k → spec_GenerationOf.l0 k l id X (X.map g) (r : Int) = some (0, hgt (comV l) id) := by
 intro d
 induction d with
 | zero =>
   intro r g hr hlev hb k hk
   obtain ⟨k, rfl⟩ : ∃ m, k = m + 1 := ⟨k - 1, by omega⟩
   have hw : wrap64 ((r : Int) + 1) = ((r + 1 : Nat) : Int) := (wrap_in zq6 zq6).trans zq6
   have hr100 : (r : Int) * 100 ≤ 10000 := by omega
   rw [spec_GenerationOf.l0, if_pos zq6]
   refine gen_l1 l id X hg.nodup hX h hg.closed r (9000001 + 1000) zq6 _ X 0 g false ((r : Int) * 100) rfl zq6 zq6 zq6 hb (fun k hk => ?_) k zq6
   have hbd := rnd_bound (cm := comV l) X g false ((r : Int) * 100) zq6 hb
   cases ht : (rndG (comV l) X g false).2 with
   | false =>
     obtain ⟨h1, h2⟩ := rnd_fix X g ht
     rw [if_neg zq10, h1, ← fix_hgt hg h2 X.length id hid (rk_le id)]
     exact gen_l4 l id X hX g r X.length 0 zq6 hid k zq6
   | true =>
     rw [if_pos rfl, hw]
     have hall : ∀ x ∈ X, g x = nv (comV l) g x := fun x hx => by
      have hle : ∀ x ∈ X, g x = hgt (comV l) x := fun x hx => hlev x hx (by have := (hgt_le hg hx).2; omega)
      rw [hle x hx, nv_hgt hg hx (fun p hp => hle p (hg.closed x hx p hp))]
     have hff : ∀ xs : List ByteArray, (∀ x ∈ xs, g x = nv (comV l) g x) → (rndG (comV l) xs g false).2 = false := by
      intro xs
      induction xs with
      | nil => intro _; rfl
      | cons x xs ih =>
        intro hx
        unfold rndG
        rw [if_pos (hx x List.mem_cons_self)]
        exact ih (fun y hy => hx y (List.mem_cons_of_mem _ hy))
     rw [hff X hall] at ht
     cases ht
 | succ d ih =>
   intro r g hr hlev hb k hk
   obtain ⟨k, rfl⟩ : ∃ m, k = m + 1 := ⟨k - 1, by omega⟩
   have hw : wrap64 ((r : Int) + 1) = ((r + 1 : Nat) : Int) := (wrap_in zq6 zq6).trans zq6
   have hr100 : (r : Int) * 100 ≤ 10000 := by omega
   rw [spec_GenerationOf.l0, if_pos zq6]
   refine gen_l1 l id X hg.nodup hX h hg.closed r (9000001 + (d + 1) * 200000 + 1000) zq6 _ X 0 g false ((r : Int) * 100) rfl zq6 zq6 zq6 hb (fun k hk => ?_) k zq6
   have hbd := rnd_bound (cm := comV l) X g false ((r : Int) * 100) zq6 hb
   have hlv := rnd_level hg r X g false (fun x hx => hx) hlev
   cases ht : (rndG (comV l) X g false).2 with
   | false =>
     obtain ⟨h1, h2⟩ := rnd_fix X g ht
     rw [if_neg zq10, h1, ← fix_hgt hg h2 X.length id hid (rk_le id)]
     exact gen_l4 l id X hX g r X.length 0 zq6 hid k zq6
   | true =>
     rw [if_pos rfl, hw]
     clear hw
     refine ih (r + 1) _ zq6 (fun x hx hxr => hlv x hx zq6 (.inr hx)) (fun y => ?_) k (Nat.lt_of_lt_of_le (Nat.lt_add_of_pos_right zq10) hk)
     have := hbd y
     omega
set_option maxRecDepth 100000 in
include hn hX in
theorem gen_circle (h : okO l) (hc : ∀ x ∈ X, ∀ p ∈ parsC (comV l x), p ∈ X) {x0 p0 : ByteArray} (hx0 : x0 ∈ X) (hp0 : p0 ∈ parsC (comV l x0)) (hcy : Gets (comV l) p0 x0) : ∀ (d r : Nat) (g : ByteArray → Int), r + d = X.length + 1 → (∀ y, 0 ≤ g y ∧ g y ≤ (r : Int) * 100) →
 ∀ k, 9000001 + (d + 1) * 200000 < k → spec_GenerationOf.l0 k l id X (X.map g) (r : Int) = some (1, 0) := by
 intro d
 induction d with
 | zero =>
   intro r g hr hb k hk
   obtain ⟨k, rfl⟩ : ∃ m, k = m + 1 := ⟨k - 1, by omega⟩
   rw [spec_GenerationOf.l0, if_neg zq6]
 | succ d ih =>
   intro r g hr hb k hk
   obtain ⟨k, rfl⟩ : ∃ m, k = m + 1 := ⟨k - 1, by omega⟩
   have hw : wrap64 ((r : Int) + 1) = ((r + 1 : Nat) : Int) := (wrap_in zq6 zq6).trans zq6
   rw [spec_GenerationOf.l0, if_pos zq6]
   refine gen_l1 l id X hn hX h hc r (9000001 + (d + 1) * 200000 + 1000) zq6 _ X 0 g false ((r : Int) * 100) rfl zq6 zq6 zq6 hb (fun k hk => ?_) k zq6
   have hbd := rnd_bound (cm := comV l) X g false ((r : Int) * 100) zq6 hb
   cases ht : (rndG (comV l) X g false).2 with
   | false =>
     obtain ⟨h1, h2⟩ := rnd_fix X g ht
     exact absurd hcy (fix_free hc h2 hx0 hp0)
   | true =>
     rw [if_pos rfl, hw]
     clear hw
     refine ih (r + 1) _ zq6 (fun y => ?_) k (Nat.lt_of_lt_of_le (Nat.lt_add_of_pos_right zq10) hk)
     have := hbd y
     omega
end
open Go.Proofs.YtpnoghcdfbmpoaaGreatDoor.PX.X (okO histG histG_all hist_set genW genF cyI reI_all gen_good cmI cmI_eq)
set_option linter.unusedVariables false
set_option linter.unusedSimpArgs false
theorem gen_same (l : List IObj) (hs : oSmall l) (id : ByteArray) (hid : id.size ≤ 9223372036854775807) : ∃ V : Int × Int, ∀ k, 40000000 < k → impl_GenerationOf.f k l id = some V ∧ spec_GenerationOf.f k l id = some V := by
 by_cases h : storeV l = 0
 · have hok := ok_of_store hs h
   refine ⟨genW l id, fun k hk => ⟨?_, ?_⟩⟩
   · unfold impl_GenerationOf.f genF
     rw [impl_store l hs k zq6, Option.bind_some, if_pos h, if_pos ⟨by omega, hok, hid⟩]
   · obtain ⟨q1, q2, q3, q4, q5⟩ := histG_all hok id hid
     have hcm : cmI l = comV l := funext (cmI_eq hok)
     unfold spec_GenerationOf.f genW
     rw [spec_store l hs k zq6, Option.bind_some, if_pos h, (q1 k zq6).2, Option.bind_some]
     by_cases h0 : (histG l id).2 = 0
     · obtain ⟨g1, g2⟩ := hist_set hok id hid h0
       have hz : List.replicate (((histG l id).1.length : Int)).toNat (0 : Int) = (histG l id).1.map (fun _ => (0 : Int)) := by
        rw [Int.toNat_natCast, List.map_const']
       rw [if_pos h0, if_pos h0, if_pos (Int.natCast_nonneg _), if_pos (by rw [Int.toNat_natCast]; omega), hz]
       cases hc : (histG l id).1.any (cyI l) with
       | true =>
         obtain ⟨x0, hx0, hcx⟩ := List.any_eq_true.1 hc
         obtain ⟨p0, hp0, hr⟩ := ((reI_all hok x0).2.2).1 hcx
         rw [if_pos rfl]
         exact gen_circle l id _ q3 q2 hok g1 hx0 hp0 hr ((histG l id).1.length + 1) 0 (fun _ => 0) zq6 (fun y => by omega) k zq6
       | false =>
         rw [if_neg zq10, hcm]
         exact gen_free l id _ q2 hok (gen_good hok id hid h0 hc) g2 (histG l id).1.length 0 (fun _ => 0) zq6 (fun x hx hle => by
          have := (hgt_le (gen_good hok id hid h0 hc) hx).1
          omega) (fun y => by omega) k zq6
     · rw [if_neg h0, if_neg h0]
 · refine ⟨(storeV l, 0), fun k hk => ⟨?_, ?_⟩⟩
   · unfold impl_GenerationOf.f genF
     rw [impl_store l hs k zq6, Option.bind_some, if_neg h]
   · unfold spec_GenerationOf.f
     rw [spec_store l hs k zq6, Option.bind_some, if_neg h]
theorem generationOf_pure (l : List LObj) (id : ByteArray) (hl1 : l.length * 40 ≤ 140737488351232) (hl2 : ∀ x ∈ l, x.f0.size ≤ 140737488351232 ∧ (Go.Lit.int .i64 x.f1).wf = true ∧ x.f2.size ≤ 140737488351232) (hd : id.size ≤ 140737488351232) : ∃ k, laws_FnExactGenerationOf.f k l id = some true := by
 obtain ⟨K, hK⟩ : ∃ K, K = l.length + 40000400 := ⟨_, rfl⟩
 refine ⟨K + 1, ?_⟩
 unfold laws_FnExactGenerationOf.f
 by_cases cd : (id.size : Int) > 1048576
 · rw [if_pos cd]
 rw [if_neg cd]
 obtain ⟨r, hr, hle, hq⟩ := szObjectS_tells l zq6 (fun x hx => ⟨(hl2 x hx).1, (hl2 x hx).2.2⟩) 1048576 zq10 zq10 (K + 1) zq6
 rw [hr, Option.bind_some]
 by_cases c : r < 0
 · rw [if_pos c]
 obtain ⟨hn, hs⟩ := hq zq6
 have hm : (l.map objConv).length = l.length := List.length_map _
 obtain ⟨v, hV⟩ := gen_same (l.map objConv) (oconvs hs) id zq6
 have e1 := toObjectS_tells l hn (K + 1) zq6
 have e2 := (hV (K + 1) zq6).2
 have e3 := (hV (K + 1) zq6).1
 have e4 := eqObjectS_same (l.map objConv) zq6 (K + 1) zq6
 have e5 : laws_eqIntResult.f v.1 v.2 v.1 v.2 = some true := by
  unfold laws_eqIntResult.f
  rw [if_pos rfl, if_pos rfl]
 rw [if_neg c]
 simp only [e1, e2, e3, e4, e5, Option.bind_some, if_true]
end Go.Proofs.YtpnoghcdfbmpoaaGreatDoorX
