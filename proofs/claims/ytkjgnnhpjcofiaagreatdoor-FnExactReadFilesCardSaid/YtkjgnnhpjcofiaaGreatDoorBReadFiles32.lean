/- Texts of this claim set one behind another by wip/bundle.py: XFnd, PXf146, PXf102. -/
import Derived.Test.YtkjgnnhpjcofiaaGreatDoorBReadFiles20
import Derived.Test.YtkjgnnhpjcofiaaGreatDoorBReadFiles9
import Derived.Test.YtkjgnnhpjcofiaaGreatDoorBReadFiles7
import Derived.Test.YtkjgnnhpjcofiaaGreatDoorBReadFiles14
namespace Go.Proofs.YtkjgnnhpjcofiaaGreatDoor.PX.X
open Go Go.RowKit Go.Lib Go.Proofs.YtkjgnnhpjcofiaaGreatDoorW.PrintWords Go.Proofs.YtkjgnnhpjcofiaaGreatDoor.PX
set_option linter.unusedVariables false
set_option linter.unusedSimpArgs false
def cmpO (id : ByteArray) (x : ObjT) : Int := Lib.compareBytes x.f0.data.toList id.data.toList
theorem litFindO (o : ObjT) (s : ByteArray) (W : World) :
 Calls Tryz.prog 207 (#[.agg #[.string o.f0, .int .i64 o.f1, .string o.f2], .string s] ++ #[]) W fun e w' => e = .returned (.int .i64 (cmpO s o)) ∧ Below W.heap.size W w' := by
 have hcmp : ∀ W', Calls Tryz.prog 80 #[.string o.f0, .string s] W' fun e w' => e = .returned (.int .i64 (cmpO s o)) ∧ W' = w' := fun W' => (Any.strings_Compare Tryz.lays106 o.f0 s W').mono fun e w' ⟨he, hw⟩ => ⟨he, hw.symm⟩
 have HC := Lib.hid hcmp
 clear hcmp
 generalize cmpO s o = q at HC ⊢
 show Calls Tryz.prog 207 #[.agg #[.string o.f0, .int .i64 o.f1, .string o.f2], .string s] W _
 go_enter Tryz.func207, Tryz.ntmps207
 go_wp2_with (go_at_call 80; (with_reducible refine (HC.out _).mono ?_); rintro e w' ⟨rfl, rfl⟩)
 go_ret
 exact ⟨rfl, (Below.refl _ W).alloc (Nat.le_refl _) _⟩
theorem findO_eg (args : Array Value) (w : World) : (callFunc 207 args).run Tryz.prog w = .ok (.enter 207 args) w := enters_of Tryz.func207 zq3 rfl args w
theorem find_calls (A0 : Option Addr) (c0 : Nat) (l0 : List ObjT) (s : ByteArray) (w : World) (hr0 : Kd.C k65 w A0 l0.length l0) (hbig : l0.length ≤ 1048576) :
 Calls Tryz.prog 146 #[.slice A0 l0.length c0, .string s] w fun e w' => e = .returned (.tuple #[.int .i64 (bsAt (cmpO s) l0 : Nat), .bool (bsHit (cmpO s) l0)]) ∧ Below w.heap.size w w' := by
 have HB := Lib.hid (bsrO (cmpO s) (.string s) 207 findO_eg l0 A0 c0 w (fun W x _ _ => litFindO x s W) hr0 hbig)
 clear hr0
 generalize bsAt (cmpO s) l0 = at_ at HB ⊢
 generalize bsHit (cmpO s) l0 = hit at HB ⊢
 go_enter Tryz.func146, Tryz.ntmps146
 go_wp2_with (go_at_call 206; (with_reducible refine HB.out.mono ?_); rintro e w' ⟨rfl, hb⟩; have HBB := Lib.hid hb; clear hb)
 go_ret2
 exact ⟨rfl, HBB.out⟩
end Go.Proofs.YtkjgnnhpjcofiaaGreatDoor.PX.X

namespace Go.Proofs.YtkjgnnhpjcofiaaGreatDoor.PX
open Go.RowKit Go.Proofs.YtkjgnnhpjcofiaaGreatDoorW.PrintWords Go.Proofs.YtkjgnnhpjcofiaaGreatDoorW.PrintLast Go.Proofs.YtkjgnnhpjcofiaaGreatDoorW.PrintMore
attribute [local go_sem] max2_int min2_int max_two min_two max_three min_three max_four min_four   -- for this text's walks alone
set_option linter.unusedVariables false
set_option linter.unusedSimpArgs false
def impl_find.f (l0 : List S65) (a1 : ByteArray) : Option (Int × Bool) := if l0.length ≤ 1048576 then some (((X.bsAt (X.cmpO a1) l0 : Nat) : Int), X.bsHit (X.cmpO a1) l0) else none
theorem impl_find.calls (A0 : Option Addr) (c0 : Nat) (l0 : List S65) (a1 : ByteArray) (r1 : Int) (r2 : Bool) (w : World) (hr0 : Kd.C k65 w A0 l0.length l0) (hc0 : l0.length ≤ c0) (h : impl_find.f l0 a1 = some (r1, r2)) :
  Calls Tryz.prog 146 #[.slice A0 l0.length c0, .string a1] w fun e w' => e = .returned (.tuple #[.int .i64 r1, .bool r2]) ∧ Below w.heap.size w w' := by
 unfold impl_find.f at h
 by_cases h1 : l0.length ≤ 1048576
 ·
  rw [if_pos h1] at h
  have h2 := Option.some.inj h
  simp only [Prod.mk.injEq] at h2
  obtain ⟨e1, e2⟩ := h2
  subst e1 e2
  exact X.find_calls A0 c0 l0 a1 w hr0 h1
 rw [if_neg h1] at h
 cases h
def impl_get.f (l0 : List (S65)) (a1 : Int) (a2 : ByteArray) : Option (ByteArray × Bool) := (impl_find.f l0 a2).bind fun bt233 => (if bt233.2 = true then (if 0 ≤ bt233.1 then (if bt233.1 < (l0.length : Int) then (if ((rd_T65 l0 bt233.1).f1) = a1 then (some ((rd_T65 l0 bt233.1).f2, true)) else (some ((⟨#[]⟩ : ByteArray), false))) else (none)) else (none)) else (some ((⟨#[]⟩ : ByteArray), false)))
set_option maxHeartbeats 8000000 in
set_option maxRecDepth 100000 in
theorem impl_get.calls (A0 : Option Addr) (c0 : Nat) (l0 : List (S65)) (a1 : Int) (a2 : ByteArray) (r1 : ByteArray) (r2 : Bool) (w : World) (hr0 : Kd.C k65 w A0 l0.length l0) (hc0 : l0.length ≤ c0) (h : impl_get.f l0 a1 a2 = some (r1, r2)) :
  Calls Tryz.prog 102 #[.slice A0 l0.length c0, .int .i64 a1, .string a2] w fun e w' => e = .returned (.tuple #[.string r1, .bool r2]) ∧ Below w.heap.size w w' := by
 have HR0 := zK hr0
 have HC0 := zK hc0
 clear hr0 hc0
 have HB := zK (Below.refl w.heap.size w)
 have H : ((impl_find.f l0 a2).bind fun bt233 => (if bt233.2 = true then (if 0 ≤ bt233.1 then (if bt233.1 < (l0.length : Int) then (if ((rd_T65 l0 bt233.1).f1) = a1 then (some ((rd_T65 l0 bt233.1).f2, true)) else (some ((⟨#[]⟩ : ByteArray), false))) else (none)) else (none)) else (some ((⟨#[]⟩ : ByteArray), false)))) = some (r1, r2) := h
 clear h
 replace H := Option.bind_eq_some_iff.mp H
 obtain ⟨⟨t233, t234⟩, A40, H⟩ := H
 replace H : (if t234 = true then (if 0 ≤ t233 then (if t233 < (l0.length : Int) then (if ((rd_T65 l0 t233).f1) = a1 then (some ((rd_T65 l0 t233).f2, true)) else (some ((⟨#[]⟩ : ByteArray), false))) else (none)) else (none)) else (some ((⟨#[]⟩ : ByteArray), false))) = some (r1, r2) := H
 have A4 := zK A40
 clear A40
 by_cases c5 : t234 = true
 ·
  subst c5
  have H1 : (if 0 ≤ t233 then (if t233 < (l0.length : Int) then (if ((rd_T65 l0 t233).f1) = a1 then (some ((rd_T65 l0 t233).f2, true)) else (some ((⟨#[]⟩ : ByteArray), false))) else (none)) else (none)) = some (r1, r2) := by rw [if_pos rfl] at H; exact H
  clear H
  have H := H1
  clear H1
  by_cases c6 : 0 ≤ t233
  ·
   rw [if_pos c6] at H
   have c6b0 : decide (0 ≤ t233) = true := decide_eq_true c6
   clear c6
   by_cases c7 : t233 < (l0.length : Int)
   ·
    rw [if_pos c7] at H
    have c7b0 : decide (t233 < (l0.length : Int)) = true := decide_eq_true c7
    clear c7
    by_cases c8 : ((rd_T65 l0 t233).f1) = a1
    ·
     rw [if_pos c8] at H
     have c8b0 : (((rd_T65 l0 t233).f1) == a1) = true := beq_iff_eq.mpr c8
     have c8b1 : (((rd_T65 l0 t233).f1) != a1) = false := bne_eq_false_iff_eq.mpr c8
     clear c8
     simp only [Option.some.injEq, Prod.mk.injEq] at H
     obtain ⟨rfl, rfl⟩ := H
     go_enter Tryz.func102, Tryz.ntmps102
     go_wp2_with (first | ((with_reducible refine gate_callee (f := 146) rfl ?_); refine goesL_ (some 13) rfl rfl Tryz.func146 zq3 rfl #[.slice A0 l0.length c0, .string a2] rfl zq1 ?_; (with_reducible refine (impl_find.calls _ _ l0 a2 t233 true _ ?side1 ?side2 A4.out).mono ?_); (case side1 => repeat (first | exact HR0.out | (with_reducible refine Kd.C_alloc ?_ _) | (with_reducible refine Kd.C_drewN ?_ _) | (with_reducible refine Kd.C_drew ?_))); (case side2 => exact HC0.out); rintro e w9 ⟨rfl, hb⟩; refine ⟨_, rfl, ?_⟩; have n0_ := zK (below_step zq0 hb); clear HB; have HB := n0_; clear n0_; (try clear hb); (try clear hb2); (try clear hk); (try clear hi); have p235 : 0 ≤ (t233 : Int) := zX zq2; have q235 : t233 < (l0.length : Int) := zX zq2; obtain ⟨ad235, e235, hx235_0, hx235_1, hx235_2⟩ := at_T65 HR0.out t233 p235 q235; cases e235; replace hx235_0 := (HB.out.cell (zL w _ hx235_0)).trans hx235_0; replace hx235_1 := (HB.out.cell (zL w _ hx235_1)).trans hx235_1; replace hx235_2 := (HB.out.cell (zL w _ hx235_2)).trans hx235_2; replace p235 := eq_true p235; replace q235 := eq_true q235; have p236 : 0 ≤ (t233 : Int) := zX zq2; have q236 : t233 < (l0.length : Int) := zX zq2; obtain ⟨ad236, e236, hx236_0, hx236_1, hx236_2⟩ := at_T65 HR0.out t233 p236 q236; obtain rfl : ad235 = ad236 := (by injection e236); replace hx236_0 := (HB.out.cell (zL w _ hx236_0)).trans hx236_0; replace hx236_1 := (HB.out.cell (zL w _ hx236_1)).trans hx236_1; replace hx236_2 := (HB.out.cell (zL w _ hx236_2)).trans hx236_2; replace p236 := eq_true p236; replace q236 := eq_true q236))
     go_ret2
     exact ⟨zq5, zq0⟩
    rw [if_neg c8] at H
    have c8b0 : (((rd_T65 l0 t233).f1) == a1) = false := beq_eq_false_iff_ne.mpr c8
    have c8b1 : (((rd_T65 l0 t233).f1) != a1) = true := bne_iff_ne.mpr c8
    simp only [Option.some.injEq, Prod.mk.injEq] at H
    obtain ⟨rfl, rfl⟩ := H
    go_enter Tryz.func102, Tryz.ntmps102
    go_wp2_with (first | ((with_reducible refine gate_callee (f := 146) rfl ?_); refine goesL_ (some 13) rfl rfl Tryz.func146 zq3 rfl #[.slice A0 l0.length c0, .string a2] rfl zq1 ?_; (with_reducible refine (impl_find.calls _ _ l0 a2 t233 true _ ?side1 ?side2 A4.out).mono ?_); (case side1 => repeat (first | exact HR0.out | (with_reducible refine Kd.C_alloc ?_ _) | (with_reducible refine Kd.C_drewN ?_ _) | (with_reducible refine Kd.C_drew ?_))); (case side2 => exact HC0.out); rintro e w10 ⟨rfl, hb⟩; refine ⟨_, rfl, ?_⟩; have n0_ := zK (below_step zq0 hb); clear HB; have HB := n0_; clear n0_; (try clear hb); (try clear hb2); (try clear hk); (try clear hi); have p235 : 0 ≤ (t233 : Int) := zX zq2; have q235 : t233 < (l0.length : Int) := zX zq2; obtain ⟨ad235, e235, hx235_0, hx235_1, hx235_2⟩ := at_T65 HR0.out t233 p235 q235; cases e235; replace hx235_0 := (HB.out.cell (zL w _ hx235_0)).trans hx235_0; replace hx235_1 := (HB.out.cell (zL w _ hx235_1)).trans hx235_1; replace hx235_2 := (HB.out.cell (zL w _ hx235_2)).trans hx235_2; replace p235 := eq_true p235; replace q235 := eq_true q235))
    go_ret2
    exact ⟨zq5, zq0⟩
   rw [if_neg c7] at H
   exact absurd H zq16
  rw [if_neg c6] at H
  exact absurd H zq16
 replace c5 := Bool.eq_false_iff.mpr c5
 subst c5
 have H1 : (some ((⟨#[]⟩ : ByteArray), false)) = some (r1, r2) := by rw [if_neg (show ¬ (false = true) by decide)] at H; exact H
 clear H
 have H := H1
 clear H1
 simp only [Option.some.injEq, Prod.mk.injEq] at H
 obtain ⟨rfl, rfl⟩ := H
 go_enter Tryz.func102, Tryz.ntmps102
 go_wp2_with (first | ((with_reducible refine gate_callee (f := 146) rfl ?_); refine goesL_ (some 13) rfl rfl Tryz.func146 zq3 rfl #[.slice A0 l0.length c0, .string a2] rfl zq1 ?_; (with_reducible refine (impl_find.calls _ _ l0 a2 t233 false _ ?side1 ?side2 A4.out).mono ?_); (case side1 => repeat (first | exact HR0.out | (with_reducible refine Kd.C_alloc ?_ _) | (with_reducible refine Kd.C_drewN ?_ _) | (with_reducible refine Kd.C_drew ?_))); (case side2 => exact HC0.out); rintro e w11 ⟨rfl, hb⟩; refine ⟨_, rfl, ?_⟩; have n0_ := zK (below_step zq0 hb); clear HB; have HB := n0_; clear n0_; (try clear hb); (try clear hb2); (try clear hk); (try clear hi)))
 go_ret2
 exact ⟨zq5, zq0⟩
end Go.Proofs.YtkjgnnhpjcofiaaGreatDoor.PX
