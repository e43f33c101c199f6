/- Texts of this claim set one behind another by wip/bundle.py: XFnd, PXf92, PXf63. -/
import Derived.Test.YtpnoghcdfbmpoaaGreatDoorBLT24
import Derived.Test.YtpnoghcdfbmpoaaGreatDoorBLT10
import Derived.Test.YtpnoghcdfbmpoaaGreatDoorBLT8
import Derived.Test.YtpnoghcdfbmpoaaGreatDoorBLT15
namespace Go.Proofs.YtpnoghcdfbmpoaaGreatDoor.PX.X
open Go Go.RowKit Go.Lib Go.Proofs.YtpnoghcdfbmpoaaGreatDoorW.PrintWords Go.Proofs.YtpnoghcdfbmpoaaGreatDoor.PX
set_option linter.unusedVariables false
set_option linter.unusedSimpArgs false
def cmpO (id : ByteArray) (x : ObjT) : Int := Lib.compareBytes x.f0.data.toList id.data.toList
theorem litFindO (o : ObjT) (s : ByteArray) (W : World) :
 Calls Tryz.prog 125 (#[.agg #[.string o.f0, .int .i64 o.f1, .string o.f2], .string s] ++ #[]) W fun e w' => e = .returned (.int .i64 (cmpO s o)) ∧ Below W.heap.size W w' := by
 have hcmp : ∀ W', Calls Tryz.prog 52 #[.string o.f0, .string s] W' fun e w' => e = .returned (.int .i64 (cmpO s o)) ∧ W' = w' := fun W' => (Any.strings_Compare Tryz.lays106 o.f0 s W').mono fun e w' ⟨he, hw⟩ => ⟨he, hw.symm⟩
 have HC := Lib.hid hcmp
 clear hcmp
 generalize cmpO s o = q at HC ⊢
 show Calls Tryz.prog 125 #[.agg #[.string o.f0, .int .i64 o.f1, .string o.f2], .string s] W _
 go_enter Tryz.func125, Tryz.ntmps125
 go_wp2_with (go_at_call 52; (with_reducible refine (HC.out _).mono ?_); rintro e w' ⟨rfl, rfl⟩)
 go_ret
 exact ⟨rfl, (Below.refl _ W).alloc (Nat.le_refl _) _⟩
theorem findO_eg (args : Array Value) (w : World) : (callFunc 125 args).run Tryz.prog w = .ok (.enter 125 args) w := enters_of Tryz.func125 zq6 rfl args w
theorem find_calls (A0 : Option Addr) (c0 : Nat) (l0 : List ObjT) (s : ByteArray) (w : World) (hr0 : Kd.C k50 w A0 l0.length l0) (hbig : l0.length ≤ 1048576) :
 Calls Tryz.prog 92 #[.slice A0 l0.length c0, .string s] w fun e w' => e = .returned (.tuple #[.int .i64 (bsAt (cmpO s) l0 : Nat), .bool (bsHit (cmpO s) l0)]) ∧ Below w.heap.size w w' := by
 have HB := Lib.hid (bsrO (cmpO s) (.string s) 125 findO_eg l0 A0 c0 w (fun W x _ _ => litFindO x s W) hr0 hbig)
 clear hr0
 generalize bsAt (cmpO s) l0 = at_ at HB ⊢
 generalize bsHit (cmpO s) l0 = hit at HB ⊢
 go_enter Tryz.func92, Tryz.ntmps92
 go_wp2_with (go_at_call 124; (with_reducible refine HB.out.mono ?_); rintro e w' ⟨rfl, hb⟩; have HBB := Lib.hid hb; clear hb)
 go_ret2
 exact ⟨rfl, HBB.out⟩
end Go.Proofs.YtpnoghcdfbmpoaaGreatDoor.PX.X

namespace Go.Proofs.YtpnoghcdfbmpoaaGreatDoor.PX
open Go.RowKit Go.Proofs.YtpnoghcdfbmpoaaGreatDoorW.PrintWords Go.Proofs.YtpnoghcdfbmpoaaGreatDoorW.PrintLast Go.Proofs.YtpnoghcdfbmpoaaGreatDoorW.PrintMore
attribute [local go_sem] max2_int min2_int max_two min_two max_three min_three max_four min_four   -- for this text's walks alone
set_option linter.unusedVariables false
set_option linter.unusedSimpArgs false
def impl_find.f (l0 : List S50) (a1 : ByteArray) : Option (Int × Bool) := if l0.length ≤ 1048576 then some (((X.bsAt (X.cmpO a1) l0 : Nat) : Int), X.bsHit (X.cmpO a1) l0) else none
theorem impl_find.calls (A0 : Option Addr) (c0 : Nat) (l0 : List S50) (a1 : ByteArray) (r1 : Int) (r2 : Bool) (w : World) (hr0 : Kd.C k50 w A0 l0.length l0) (hc0 : l0.length ≤ c0) (h : impl_find.f l0 a1 = some (r1, r2)) :
  Calls Tryz.prog 92 #[.slice A0 l0.length c0, .string a1] w fun e w' => e = .returned (.tuple #[.int .i64 r1, .bool r2]) ∧ Below w.heap.size w w' := by
 unfold impl_find.f at h
 by_cases h1 : l0.length ≤ 1048576
 ·
  rw [if_pos h1] at h
  have h2 := Option.some.inj h
  simp only [Prod.mk.injEq] at h2
  obtain ⟨e1, e2⟩ := h2
  subst e1 e2
  exact X.find_calls A0 c0 l0 a1 w hr0 h1
 rw [if_neg h1] at h
 cases h
def impl_get.f (l0 : List (S50)) (a1 : Int) (a2 : ByteArray) : Option (ByteArray × Bool) := (impl_find.f l0 a2).bind fun bt282 => (if bt282.2 = true then (if 0 ≤ bt282.1 then (if bt282.1 < (l0.length : Int) then (if ((rd_T50 l0 bt282.1).f1) = a1 then (some ((rd_T50 l0 bt282.1).f2, true)) else (some ((⟨#[]⟩ : ByteArray), false))) else (none)) else (none)) else (some ((⟨#[]⟩ : ByteArray), false)))
set_option maxHeartbeats 8000000 in
set_option maxRecDepth 100000 in
theorem impl_get.calls (A0 : Option Addr) (c0 : Nat) (l0 : List (S50)) (a1 : Int) (a2 : ByteArray) (r1 : ByteArray) (r2 : Bool) (w : World) (hr0 : Kd.C k50 w A0 l0.length l0) (hc0 : l0.length ≤ c0) (h : impl_get.f l0 a1 a2 = some (r1, r2)) :
  Calls Tryz.prog 63 #[.slice A0 l0.length c0, .int .i64 a1, .string a2] w fun e w' => e = .returned (.tuple #[.string r1, .bool r2]) ∧ Below w.heap.size w w' := by
 have HR0 := zK hr0
 have HC0 := zK hc0
 clear hr0 hc0
 have HB := zK (Below.refl w.heap.size w)
 have H : ((impl_find.f l0 a2).bind fun bt282 => (if bt282.2 = true then (if 0 ≤ bt282.1 then (if bt282.1 < (l0.length : Int) then (if ((rd_T50 l0 bt282.1).f1) = a1 then (some ((rd_T50 l0 bt282.1).f2, true)) else (some ((⟨#[]⟩ : ByteArray), false))) else (none)) else (none)) else (some ((⟨#[]⟩ : ByteArray), false)))) = some (r1, r2) := h
 clear h
 replace H := Option.bind_eq_some_iff.mp H
 obtain ⟨⟨t282, t283⟩, A40, H⟩ := H
 replace H : (if t283 = true then (if 0 ≤ t282 then (if t282 < (l0.length : Int) then (if ((rd_T50 l0 t282).f1) = a1 then (some ((rd_T50 l0 t282).f2, true)) else (some ((⟨#[]⟩ : ByteArray), false))) else (none)) else (none)) else (some ((⟨#[]⟩ : ByteArray), false))) = some (r1, r2) := H
 have A4 := zK A40
 clear A40
 by_cases c5 : t283 = true
 ·
  subst c5
  have H1 : (if 0 ≤ t282 then (if t282 < (l0.length : Int) then (if ((rd_T50 l0 t282).f1) = a1 then (some ((rd_T50 l0 t282).f2, true)) else (some ((⟨#[]⟩ : ByteArray), false))) else (none)) else (none)) = some (r1, r2) := by rw [if_pos rfl] at H; exact H
  clear H
  have H := H1
  clear H1
  by_cases c6 : 0 ≤ t282
  ·
   rw [if_pos c6] at H
   have c6b0 : decide (0 ≤ t282) = true := decide_eq_true c6
   clear c6
   by_cases c7 : t282 < (l0.length : Int)
   ·
    rw [if_pos c7] at H
    have c7b0 : decide (t282 < (l0.length : Int)) = true := decide_eq_true c7
    clear c7
    by_cases c8 : ((rd_T50 l0 t282).f1) = a1
    ·
     rw [if_pos c8] at H
     have c8b0 : (((rd_T50 l0 t282).f1) == a1) = true := beq_iff_eq.mpr c8
     have c8b1 : (((rd_T50 l0 t282).f1) != a1) = false := bne_eq_false_iff_eq.mpr c8
     clear c8
     simp only [Option.some.injEq, Prod.mk.injEq] at H
     obtain ⟨rfl, rfl⟩ := H
     go_enter Tryz.func63, Tryz.ntmps63
     go_wp2_with (first | ((with_reducible refine gate_callee (f := 92) rfl ?_); refine goesL_ (some 13) rfl rfl Tryz.func92 zq6 rfl #[.slice A0 l0.length c0, .string a2] rfl zq1 ?_; (with_reducible refine (impl_find.calls _ _ l0 a2 t282 true _ ?side1 ?side2 A4.out).mono ?_); (case side1 => repeat (first | exact HR0.out | (with_reducible refine Kd.C_alloc ?_ _) | (with_reducible refine Kd.C_drewN ?_ _) | (with_reducible refine Kd.C_drew ?_))); (case side2 => exact HC0.out); rintro e w9 ⟨rfl, hb⟩; refine ⟨_, rfl, ?_⟩; have n0_ := zK (below_step zq0 hb); clear HB; have HB := n0_; clear n0_; (try clear hb); (try clear hb2); (try clear hk); (try clear hi); have p284 : 0 ≤ (t282 : Int) := zX zq2; have q284 : t282 < (l0.length : Int) := zX zq2; obtain ⟨ad284, e284, hx284_0, hx284_1, hx284_2⟩ := at_T50 HR0.out t282 p284 q284; cases e284; replace hx284_0 := (HB.out.cell (zL w _ hx284_0)).trans hx284_0; replace hx284_1 := (HB.out.cell (zL w _ hx284_1)).trans hx284_1; replace hx284_2 := (HB.out.cell (zL w _ hx284_2)).trans hx284_2; replace p284 := eq_true p284; replace q284 := eq_true q284; have p285 : 0 ≤ (t282 : Int) := zX zq2; have q285 : t282 < (l0.length : Int) := zX zq2; obtain ⟨ad285, e285, hx285_0, hx285_1, hx285_2⟩ := at_T50 HR0.out t282 p285 q285; obtain rfl : ad284 = ad285 := (by injection e285); replace hx285_0 := (HB.out.cell (zL w _ hx285_0)).trans hx285_0; replace hx285_1 := (HB.out.cell (zL w _ hx285_1)).trans hx285_1; replace hx285_2 := (HB.out.cell (zL w _ hx285_2)).trans hx285_2; replace p285 := eq_true p285; replace q285 := eq_true q285))
     go_ret2
     exact ⟨zq3, zq0⟩
    rw [if_neg c8] at H
    have c8b0 : (((rd_T50 l0 t282).f1) == a1) = false := beq_eq_false_iff_ne.mpr c8
    have c8b1 : (((rd_T50 l0 t282).f1) != a1) = true := bne_iff_ne.mpr c8
    simp only [Option.some.injEq, Prod.mk.injEq] at H
    obtain ⟨rfl, rfl⟩ := H
    go_enter Tryz.func63, Tryz.ntmps63
    go_wp2_with (first | ((with_reducible refine gate_callee (f := 92) rfl ?_); refine goesL_ (some 13) rfl rfl Tryz.func92 zq6 rfl #[.slice A0 l0.length c0, .string a2] rfl zq1 ?_; (with_reducible refine (impl_find.calls _ _ l0 a2 t282 true _ ?side1 ?side2 A4.out).mono ?_); (case side1 => repeat (first | exact HR0.out | (with_reducible refine Kd.C_alloc ?_ _) | (with_reducible refine Kd.C_drewN ?_ _) | (with_reducible refine Kd.C_drew ?_))); (case side2 => exact HC0.out); rintro e w10 ⟨rfl, hb⟩; refine ⟨_, rfl, ?_⟩; have n0_ := zK (below_step zq0 hb); clear HB; have HB := n0_; clear n0_; (try clear hb); (try clear hb2); (try clear hk); (try clear hi); have p284 : 0 ≤ (t282 : Int) := zX zq2; have q284 : t282 < (l0.length : Int) := zX zq2; obtain ⟨ad284, e284, hx284_0, hx284_1, hx284_2⟩ := at_T50 HR0.out t282 p284 q284; cases e284; replace hx284_0 := (HB.out.cell (zL w _ hx284_0)).trans hx284_0; replace hx284_1 := (HB.out.cell (zL w _ hx284_1)).trans hx284_1; replace hx284_2 := (HB.out.cell (zL w _ hx284_2)).trans hx284_2; replace p284 := eq_true p284; replace q284 := eq_true q284))
    go_ret2
    exact ⟨zq3, zq0⟩
   rw [if_neg c7] at H
   exact absurd H zq12
  rw [if_neg c6] at H
  exact absurd H zq12
 replace c5 := Bool.eq_false_iff.mpr c5
 subst c5
 have H1 : (some ((⟨#[]⟩ : ByteArray), false)) = some (r1, r2) := by rw [if_neg (show ¬ (false = true) by decide)] at H; exact H
 clear H
 have H := H1
 clear H1
 simp only [Option.some.injEq, Prod.mk.injEq] at H
 obtain ⟨rfl, rfl⟩ := H
 go_enter Tryz.func63, Tryz.ntmps63
 go_wp2_with (first | ((with_reducible refine gate_callee (f := 92) rfl ?_); refine goesL_ (some 13) rfl rfl Tryz.func92 zq6 rfl #[.slice A0 l0.length c0, .string a2] rfl zq1 ?_; (with_reducible refine (impl_find.calls _ _ l0 a2 t282 false _ ?side1 ?side2 A4.out).mono ?_); (case side1 => repeat (first | exact HR0.out | (with_reducible refine Kd.C_alloc ?_ _) | (with_reducible refine Kd.C_drewN ?_ _) | (with_reducible refine Kd.C_drew ?_))); (case side2 => exact HC0.out); rintro e w11 ⟨rfl, hb⟩; refine ⟨_, rfl, ?_⟩; have n0_ := zK (below_step zq0 hb); clear HB; have HB := n0_; clear n0_; (try clear hb); (try clear hb2); (try clear hk); (try clear hi)))
 go_ret2
 exact ⟨zq3, zq0⟩
end Go.Proofs.YtpnoghcdfbmpoaaGreatDoor.PX
