/- Texts of this claim set one behind another by wip/bundle.py: PXf3, XSortLaw, XLawDiffFiles. -/
import Derived.Test.YtjibadlbiapcmaaGreatDoorBDF11
import Derived.Test.YtjibadlbiapcmaaGreatDoorBDF22
import Derived.Test.YtjibadlbiapcmaaGreatDoorBDF24
import Derived.Test.YtjibadlbiapcmaaGreatDoorBDF12
import Derived.Test.YtjibadlbiapcmaaGreatDoorBDF14
import Derived.Test.YtjibadlbiapcmaaGreatDoorBDF23
import Derived.Test.YtjibadlbiapcmaaGreatDoorBDF15
import Derived.Test.YtjibadlbiapcmaaGreatDoorBDF21
namespace Go.Proofs.YtjibadlbiapcmaaGreatDoor.PX
open Go.RowKit Go.Proofs.YtjibadlbiapcmaaGreatDoorW.PrintWords Go.Proofs.YtjibadlbiapcmaaGreatDoorW.PrintLast Go.Proofs.YtjibadlbiapcmaaGreatDoorW.PrintMore
attribute [local go_sem] max2_int min2_int max_two min_two max_three min_three max_four min_four   -- for this text's walks alone
set_option linter.unusedVariables false
set_option linter.unusedSimpArgs false

/-! ### laws_FnExactDiffFiles: function 3 -/
def laws_FnExactDiffFiles.j0 : Nat → List (S71) → List (S71) → Bool → Int → List (S77) → Int → List (S77) → Option (Bool)
 | 0, _, _, _, _, _, _, _ => none
 | k + 1, x0, x1, x63, x409000, x409001, x420000, x420001 => if x63 = true then (some false) else ((laws_markDeltasResult.f x420000 x420001 1).bind fun bt434 => ((laws_heldDeltasResult.f x420000 bt434.2 1).bind fun t436 => (if t436 < 0 then (some false) else (if t436 = bt434.1 then ((laws_toFileS.f k x0).bind fun t437 => ((laws_toFileS.f k x1).bind fun t440 => ((impl_DiffFiles.f k t437 t440).bind fun bt443 => ((laws_eqDeltasResult.f k bt443.1 bt443.2 x409000 x409001).bind fun t448 => (if t448 = true then ((laws_heldDeltasResult.f x420000 bt434.2 1).bind fun t449 => (if t449 < 0 then (some false) else (if t449 = bt434.1 then (some true) else (some false)))) else (some false)))))) else (some false)))))
def laws_FnExactDiffFiles.f (k : Nat) (l0 : List (S71)) (l1 : List (S71)) : Option (Bool) := (laws_szFileS.f k l0 1048576).bind fun t396 => (if t396 < 0 then (some true) else ((laws_szFileS.f k l1 t396).bind fun t397 => (if t397 < 0 then (some true) else ((laws_toFileS.f k l0).bind fun t398 => ((laws_toFileS.f k l1).bind fun t401 => ((spec_DiffFiles.f k t398 t401).bind fun bt404 => ((laws_toFileS.f k l0).bind fun t409 => ((laws_toFileS.f k l1).bind fun t412 => ((impl_DiffFiles.f k t409 t412).bind fun bt415 => ((laws_eqDeltasResult.f k bt415.1 bt415.2 bt404.1 bt404.2).bind fun t420 => (if t420 = true then ((laws_toFileS.f k l0).bind fun t421 => ((laws_eqFileS.f k t409 t421).bind fun t424 => (if t424 = true then ((laws_toFileS.f k l1).bind fun t425 => ((laws_eqFileS.f k t412 t425).bind fun t428 => (if t428 = true then ((laws_markFileS.f k t409 1).bind fun bt429 => ((laws_markFileS.f k t412 bt429.1).bind fun bt431 => (if bt431.1 < 0 then (laws_FnExactDiffFiles.j0 k l0 l1 true bt404.1 bt404.2 bt415.1 bt415.2) else ((laws_eqDeltasResult.f k bt415.1 bt415.2 bt404.1 bt404.2).bind fun t433 => (laws_FnExactDiffFiles.j0 k l0 l1 (!t433) bt404.1 bt404.2 bt415.1 bt415.2))))) else (some false)))) else (some false)))) else (some false))))))))))))
theorem laws_FnExactDiffFiles.mono_l : ∀ k, (∀ y0 y1 y2 y3 y4 y5 y6, LeO (laws_FnExactDiffFiles.j0 k y0 y1 y2 y3 y4 y5 y6) (laws_FnExactDiffFiles.j0 (k + 1) y0 y1 y2 y3 y4 y5 y6))
 | 0 => fun _ _ _ _ _ _ _ r h => by simp [laws_FnExactDiffFiles.j0] at h
 | k + 1 => by
  have ih0 := laws_FnExactDiffFiles.mono_l k
  ·
   intro y0 y1 y2 y3 y4 y5 y6
   unfold laws_FnExactDiffFiles.j0
   repeat' first
   | (with_reducible exact ih0 _ _ _ _ _ _ _)
   | (with_reducible exact impl_DiffFiles.mono _ _ _)
   | (with_reducible exact laws_eqDeltasResult.mono _ _ _ _ _)
   | (with_reducible exact laws_eqFileS.mono _ _ _)
   | (with_reducible exact laws_markFileS.mono _ _ _)
   | (with_reducible exact laws_szFileS.mono _ _ _)
   | (with_reducible exact laws_toFileS.mono _ _)
   | (with_reducible exact spec_DiffFiles.mono _ _ _)
   | (with_reducible exact LeO.refl _)
   | (with_reducible exact LeO.none _)
   | (with_reducible refine LeO.ite ?_ ?_)
   | (with_reducible refine LeO.bind ?_ (fun _ => ?_))
   | exact ih0 _ _ _ _ _ _ _
   | exact impl_DiffFiles.mono _ _ _
   | exact laws_eqDeltasResult.mono _ _ _ _ _
   | exact laws_eqFileS.mono _ _ _
   | exact laws_markFileS.mono _ _ _
   | exact laws_szFileS.mono _ _ _
   | exact laws_toFileS.mono _ _
   | exact spec_DiffFiles.mono _ _ _
   | exact LeO.none _
   | refine LeO.ite ?_ ?_
   | refine LeO.bind ?_ (fun _ => ?_)
theorem laws_FnExactDiffFiles.mono : ∀ a0 a1 k, LeO (laws_FnExactDiffFiles.f k a0 a1) (laws_FnExactDiffFiles.f (k + 1) a0 a1) := by
 intro a0 a1 k
 have ih0 := laws_FnExactDiffFiles.mono_l k
 unfold laws_FnExactDiffFiles.f
 repeat' first
   | (with_reducible exact ih0 _ _ _ _ _ _ _)
   | (with_reducible exact impl_DiffFiles.mono _ _ _)
   | (with_reducible exact laws_eqDeltasResult.mono _ _ _ _ _)
   | (with_reducible exact laws_eqFileS.mono _ _ _)
   | (with_reducible exact laws_markFileS.mono _ _ _)
   | (with_reducible exact laws_szFileS.mono _ _ _)
   | (with_reducible exact laws_toFileS.mono _ _)
   | (with_reducible exact spec_DiffFiles.mono _ _ _)
   | (with_reducible exact LeO.refl _)
   | (with_reducible exact LeO.none _)
   | (with_reducible refine LeO.ite ?_ ?_)
   | (with_reducible refine LeO.bind ?_ (fun _ => ?_))
   | exact ih0 _ _ _ _ _ _ _
   | exact impl_DiffFiles.mono _ _ _
   | exact laws_eqDeltasResult.mono _ _ _ _ _
   | exact laws_eqFileS.mono _ _ _
   | exact laws_markFileS.mono _ _ _
   | exact laws_szFileS.mono _ _ _
   | exact laws_toFileS.mono _ _
   | exact spec_DiffFiles.mono _ _ _
   | exact LeO.none _
   | refine LeO.ite ?_ ?_
   | refine LeO.bind ?_ (fun _ => ?_)
set_option maxHeartbeats 8000000 in
set_option maxRecDepth 100000 in
theorem laws_FnExactDiffFiles.calls (k : Nat) (A0 : Option Addr) (c0 : Nat) (l0 : List (S71)) (A1 : Option Addr) (c1 : Nat) (l1 : List (S71)) (r : Bool) (w : World) (hr0 : Kd.C k71 w A0 l0.length l0) (hc0 : l0.length ≤ c0) (hr1 : Kd.C k71 w A1 l1.length l1) (hc1 : l1.length ≤ c1) (h : laws_FnExactDiffFiles.f k l0 l1 = some r) (hT_ : r = true := by rfl) :
  Calls Tryz.prog 3 #[.slice A0 l0.length c0, .slice A1 l1.length c1] w fun e w' => e = .returned (.bool r) ∧ Below w.heap.size w w' := by
 have hu26 := Tryz.underlying26
 have HR0 := zK hr0
 have HC0 := zK hc0
 clear hr0 hc0
 have HR1 := zK hr1
 have HC1 := zK hc1
 clear hr1 hc1
 have HB := zK (Below.refl w.heap.size w)
 have H : ((laws_szFileS.f k l0 1048576).bind fun t396 => (if t396 < 0 then (some true) else ((laws_szFileS.f k l1 t396).bind fun t397 => (if t397 < 0 then (some true) else ((laws_toFileS.f k l0).bind fun t398 => ((laws_toFileS.f k l1).bind fun t401 => ((spec_DiffFiles.f k t398 t401).bind fun bt404 => ((laws_toFileS.f k l0).bind fun t409 => ((laws_toFileS.f k l1).bind fun t412 => ((impl_DiffFiles.f k t409 t412).bind fun bt415 => ((laws_eqDeltasResult.f k bt415.1 bt415.2 bt404.1 bt404.2).bind fun t420 => (if t420 = true then ((laws_toFileS.f k l0).bind fun t421 => ((laws_eqFileS.f k t409 t421).bind fun t424 => (if t424 = true then ((laws_toFileS.f k l1).bind fun t425 => ((laws_eqFileS.f k t412 t425).bind fun t428 => (if t428 = true then ((laws_markFileS.f k t409 1).bind fun bt429 => ((laws_markFileS.f k t412 bt429.1).bind fun bt431 => (if bt431.1 < 0 then (laws_FnExactDiffFiles.j0 k l0 l1 true bt404.1 bt404.2 bt415.1 bt415.2) else ((laws_eqDeltasResult.f k bt415.1 bt415.2 bt404.1 bt404.2).bind fun t433 => (laws_FnExactDiffFiles.j0 k l0 l1 (!t433) bt404.1 bt404.2 bt415.1 bt415.2))))) else (some false)))) else (some false)))) else (some false))))))))))))) = some r := h
 clear h
 replace H := Option.bind_eq_some_iff.mp H
 obtain ⟨t396, A30, H⟩ := H
 replace H : (if t396 < 0 then (some true) else ((laws_szFileS.f k l1 t396).bind fun t397 => (if t397 < 0 then (some true) else ((laws_toFileS.f k l0).bind fun t398 => ((laws_toFileS.f k l1).bind fun t401 => ((spec_DiffFiles.f k t398 t401).bind fun bt404 => ((laws_toFileS.f k l0).bind fun t409 => ((laws_toFileS.f k l1).bind fun t412 => ((impl_DiffFiles.f k t409 t412).bind fun bt415 => ((laws_eqDeltasResult.f k bt415.1 bt415.2 bt404.1 bt404.2).bind fun t420 => (if t420 = true then ((laws_toFileS.f k l0).bind fun t421 => ((laws_eqFileS.f k t409 t421).bind fun t424 => (if t424 = true then ((laws_toFileS.f k l1).bind fun t425 => ((laws_eqFileS.f k t412 t425).bind fun t428 => (if t428 = true then ((laws_markFileS.f k t409 1).bind fun bt429 => ((laws_markFileS.f k t412 bt429.1).bind fun bt431 => (if bt431.1 < 0 then (laws_FnExactDiffFiles.j0 k l0 l1 true bt404.1 bt404.2 bt415.1 bt415.2) else ((laws_eqDeltasResult.f k bt415.1 bt415.2 bt404.1 bt404.2).bind fun t433 => (laws_FnExactDiffFiles.j0 k l0 l1 (!t433) bt404.1 bt404.2 bt415.1 bt415.2))))) else (some false)))) else (some false)))) else (some false)))))))))))) = some r := H
 have A3 := zK A30
 clear A30
 by_cases c4 : t396 < 0
 ·
  rw [if_pos c4] at H
  have c4b0 : decide (t396 < 0) = true := decide_eq_true c4
  clear c4
  obtain rfl := Option.some.inj H
  go_enter Tryz.func3, Tryz.ntmps3
  go_wp2_with (first | ((with_reducible refine gate_callee (f := 9) rfl ?_); refine goesL_ (some 16) rfl rfl Tryz.func9 (by kernel_rfl) rfl #[.slice A0 l0.length c0, .int .i64 1048576] rfl (by (try simp only [List.map_toArray, List.map_cons, List.map_nil]); first | done | rfl | (simp only [List.length_drop, List.length_take]; rfl)) ?_; (with_reducible refine (laws_szFileS.calls k _ _ l0 1048576 t396 _ ?side1 ?side2 A3.out).mono ?_); (case side1 => repeat (first | exact HR0.out | (with_reducible refine Kd.C_alloc ?_ _) | (with_reducible refine Kd.C_drewN ?_ _) | (with_reducible refine Kd.C_drew ?_))); (case side2 => exact HC0.out); rintro e w5 ⟨rfl, hb⟩; refine ⟨_, rfl, ?_⟩; have n0_ := zK (below_step (by repeat (first | (with_reducible first | exact HB.out | apply zA | apply zN | apply zD) | exact HB.out)) hb); clear HB; have HB := n0_; clear n0_; (try clear hb); (try clear hb2); (try clear hk); (try clear hi)))
  go_ret
  exact ⟨by first | rfl | (simp [errW_none, errW_some] <;> rfl) | (simp [*, errW_none, errW_some] <;> rfl), by repeat (first | (with_reducible first | exact HB.out | apply zA | apply zN | apply zD) | exact HB.out)⟩
 ·
  rw [if_neg c4] at H
  have c4b0 : decide (t396 < 0) = false := decide_eq_false c4
  clear c4
  replace H := Option.bind_eq_some_iff.mp H
  obtain ⟨t397, A60, H⟩ := H
  replace H : (if t397 < 0 then (some true) else ((laws_toFileS.f k l0).bind fun t398 => ((laws_toFileS.f k l1).bind fun t401 => ((spec_DiffFiles.f k t398 t401).bind fun bt404 => ((laws_toFileS.f k l0).bind fun t409 => ((laws_toFileS.f k l1).bind fun t412 => ((impl_DiffFiles.f k t409 t412).bind fun bt415 => ((laws_eqDeltasResult.f k bt415.1 bt415.2 bt404.1 bt404.2).bind fun t420 => (if t420 = true then ((laws_toFileS.f k l0).bind fun t421 => ((laws_eqFileS.f k t409 t421).bind fun t424 => (if t424 = true then ((laws_toFileS.f k l1).bind fun t425 => ((laws_eqFileS.f k t412 t425).bind fun t428 => (if t428 = true then ((laws_markFileS.f k t409 1).bind fun bt429 => ((laws_markFileS.f k t412 bt429.1).bind fun bt431 => (if bt431.1 < 0 then (laws_FnExactDiffFiles.j0 k l0 l1 true bt404.1 bt404.2 bt415.1 bt415.2) else ((laws_eqDeltasResult.f k bt415.1 bt415.2 bt404.1 bt404.2).bind fun t433 => (laws_FnExactDiffFiles.j0 k l0 l1 (!t433) bt404.1 bt404.2 bt415.1 bt415.2))))) else (some false)))) else (some false)))) else (some false)))))))))) = some r := H
  have A6 := zK A60
  clear A60
  by_cases c7 : t397 < 0
  ·
   rw [if_pos c7] at H
   have c7b0 : decide (t397 < 0) = true := decide_eq_true c7
   clear c7
   obtain rfl := Option.some.inj H
   go_enter Tryz.func3, Tryz.ntmps3
   go_wp2_with (first | ((with_reducible refine gate_callee (f := 9) rfl ?_); refine goesL_ (some 16) rfl rfl Tryz.func9 (by kernel_rfl) rfl #[.slice A0 l0.length c0, .int .i64 1048576] rfl (by (try simp only [List.map_toArray, List.map_cons, List.map_nil]); first | done | rfl | (simp only [List.length_drop, List.length_take]; rfl)) ?_; (with_reducible refine (laws_szFileS.calls k _ _ l0 1048576 t396 _ ?side1 ?side2 A3.out).mono ?_); (case side1 => repeat (first | exact HR0.out | (with_reducible refine Kd.C_alloc ?_ _) | (with_reducible refine Kd.C_drewN ?_ _) | (with_reducible refine Kd.C_drew ?_))); (case side2 => exact HC0.out); rintro e w8 ⟨rfl, hb⟩; refine ⟨_, rfl, ?_⟩; have n0_ := zK (below_step (by repeat (first | (with_reducible first | exact HB.out | apply zA | apply zN | apply zD) | exact HB.out)) hb); clear HB; have HB := n0_; clear n0_; (try clear hb); (try clear hb2); (try clear hk); (try clear hi)) | ((with_reducible refine gate_callee (f := 9) rfl ?_); refine goesL_ (some 21) rfl rfl Tryz.func9 (by kernel_rfl) rfl #[.slice A1 l1.length c1, .int .i64 t396] rfl (by (try simp only [List.map_toArray, List.map_cons, List.map_nil]); first | done | rfl | (simp only [List.length_drop, List.length_take]; rfl)) ?_; (with_reducible refine (laws_szFileS.calls k _ _ l1 t396 t397 _ ?side1 ?side2 A6.out).mono ?_); (case side1 => repeat (first | exact (Kd.C_below HR1.out HB.out) | (with_reducible refine Kd.C_alloc ?_ _) | (with_reducible refine Kd.C_drewN ?_ _) | (with_reducible refine Kd.C_drew ?_))); (case side2 => exact HC1.out); rintro e w9 ⟨rfl, hb⟩; refine ⟨_, rfl, ?_⟩; have n0_ := zK (below_step (by repeat (first | (with_reducible first | exact HB.out | apply zA | apply zN | apply zD) | exact HB.out)) hb); clear HB; have HB := n0_; clear n0_; (try clear hb); (try clear hb2); (try clear hk); (try clear hi)))
   go_ret
   exact ⟨by first | rfl | (simp [errW_none, errW_some] <;> rfl) | (simp [*, errW_none, errW_some] <;> rfl), by repeat (first | (with_reducible first | exact HB.out | apply zA | apply zN | apply zD) | exact HB.out)⟩
  ·
   rw [if_neg c7] at H
   have c7b0 : decide (t397 < 0) = false := decide_eq_false c7
   clear c7
   replace H := Option.bind_eq_some_iff.mp H
   obtain ⟨t398, A100, H⟩ := H
   replace H : ((laws_toFileS.f k l1).bind fun t401 => ((spec_DiffFiles.f k t398 t401).bind fun bt404 => ((laws_toFileS.f k l0).bind fun t409 => ((laws_toFileS.f k l1).bind fun t412 => ((impl_DiffFiles.f k t409 t412).bind fun bt415 => ((laws_eqDeltasResult.f k bt415.1 bt415.2 bt404.1 bt404.2).bind fun t420 => (if t420 = true then ((laws_toFileS.f k l0).bind fun t421 => ((laws_eqFileS.f k t409 t421).bind fun t424 => (if t424 = true then ((laws_toFileS.f k l1).bind fun t425 => ((laws_eqFileS.f k t412 t425).bind fun t428 => (if t428 = true then ((laws_markFileS.f k t409 1).bind fun bt429 => ((laws_markFileS.f k t412 bt429.1).bind fun bt431 => (if bt431.1 < 0 then (laws_FnExactDiffFiles.j0 k l0 l1 true bt404.1 bt404.2 bt415.1 bt415.2) else ((laws_eqDeltasResult.f k bt415.1 bt415.2 bt404.1 bt404.2).bind fun t433 => (laws_FnExactDiffFiles.j0 k l0 l1 (!t433) bt404.1 bt404.2 bt415.1 bt415.2))))) else (some false)))) else (some false)))) else (some false)))))))) = some r := H
   have A10 := zK A100
   clear A100
   replace H := Option.bind_eq_some_iff.mp H
   obtain ⟨t401, A110, H⟩ := H
   replace H : ((spec_DiffFiles.f k t398 t401).bind fun bt404 => ((laws_toFileS.f k l0).bind fun t409 => ((laws_toFileS.f k l1).bind fun t412 => ((impl_DiffFiles.f k t409 t412).bind fun bt415 => ((laws_eqDeltasResult.f k bt415.1 bt415.2 bt404.1 bt404.2).bind fun t420 => (if t420 = true then ((laws_toFileS.f k l0).bind fun t421 => ((laws_eqFileS.f k t409 t421).bind fun t424 => (if t424 = true then ((laws_toFileS.f k l1).bind fun t425 => ((laws_eqFileS.f k t412 t425).bind fun t428 => (if t428 = true then ((laws_markFileS.f k t409 1).bind fun bt429 => ((laws_markFileS.f k t412 bt429.1).bind fun bt431 => (if bt431.1 < 0 then (laws_FnExactDiffFiles.j0 k l0 l1 true bt404.1 bt404.2 bt415.1 bt415.2) else ((laws_eqDeltasResult.f k bt415.1 bt415.2 bt404.1 bt404.2).bind fun t433 => (laws_FnExactDiffFiles.j0 k l0 l1 (!t433) bt404.1 bt404.2 bt415.1 bt415.2))))) else (some false)))) else (some false)))) else (some false))))))) = some r := H
   have A11 := zK A110
   clear A110
   replace H := Option.bind_eq_some_iff.mp H
   obtain ⟨⟨t404, t405⟩, A120, H⟩ := H
   replace H : ((laws_toFileS.f k l0).bind fun t409 => ((laws_toFileS.f k l1).bind fun t412 => ((impl_DiffFiles.f k t409 t412).bind fun bt415 => ((laws_eqDeltasResult.f k bt415.1 bt415.2 t404 t405).bind fun t420 => (if t420 = true then ((laws_toFileS.f k l0).bind fun t421 => ((laws_eqFileS.f k t409 t421).bind fun t424 => (if t424 = true then ((laws_toFileS.f k l1).bind fun t425 => ((laws_eqFileS.f k t412 t425).bind fun t428 => (if t428 = true then ((laws_markFileS.f k t409 1).bind fun bt429 => ((laws_markFileS.f k t412 bt429.1).bind fun bt431 => (if bt431.1 < 0 then (laws_FnExactDiffFiles.j0 k l0 l1 true t404 t405 bt415.1 bt415.2) else ((laws_eqDeltasResult.f k bt415.1 bt415.2 t404 t405).bind fun t433 => (laws_FnExactDiffFiles.j0 k l0 l1 (!t433) t404 t405 bt415.1 bt415.2))))) else (some false)))) else (some false)))) else (some false)))))) = some r := H
   have A12 := zK A120
   clear A120
   replace H := Option.bind_eq_some_iff.mp H
   obtain ⟨t409, A130, H⟩ := H
   replace H : ((laws_toFileS.f k l1).bind fun t412 => ((impl_DiffFiles.f k t409 t412).bind fun bt415 => ((laws_eqDeltasResult.f k bt415.1 bt415.2 t404 t405).bind fun t420 => (if t420 = true then ((laws_toFileS.f k l0).bind fun t421 => ((laws_eqFileS.f k t409 t421).bind fun t424 => (if t424 = true then ((laws_toFileS.f k l1).bind fun t425 => ((laws_eqFileS.f k t412 t425).bind fun t428 => (if t428 = true then ((laws_markFileS.f k t409 1).bind fun bt429 => ((laws_markFileS.f k t412 bt429.1).bind fun bt431 => (if bt431.1 < 0 then (laws_FnExactDiffFiles.j0 k l0 l1 true t404 t405 bt415.1 bt415.2) else ((laws_eqDeltasResult.f k bt415.1 bt415.2 t404 t405).bind fun t433 => (laws_FnExactDiffFiles.j0 k l0 l1 (!t433) t404 t405 bt415.1 bt415.2))))) else (some false)))) else (some false)))) else (some false))))) = some r := H
   have A13 := zK A130
   clear A130
   replace H := Option.bind_eq_some_iff.mp H
   obtain ⟨t412, A140, H⟩ := H
   replace H : ((impl_DiffFiles.f k t409 t412).bind fun bt415 => ((laws_eqDeltasResult.f k bt415.1 bt415.2 t404 t405).bind fun t420 => (if t420 = true then ((laws_toFileS.f k l0).bind fun t421 => ((laws_eqFileS.f k t409 t421).bind fun t424 => (if t424 = true then ((laws_toFileS.f k l1).bind fun t425 => ((laws_eqFileS.f k t412 t425).bind fun t428 => (if t428 = true then ((laws_markFileS.f k t409 1).bind fun bt429 => ((laws_markFileS.f k t412 bt429.1).bind fun bt431 => (if bt431.1 < 0 then (laws_FnExactDiffFiles.j0 k l0 l1 true t404 t405 bt415.1 bt415.2) else ((laws_eqDeltasResult.f k bt415.1 bt415.2 t404 t405).bind fun t433 => (laws_FnExactDiffFiles.j0 k l0 l1 (!t433) t404 t405 bt415.1 bt415.2))))) else (some false)))) else (some false)))) else (some false)))) = some r := H
   have A14 := zK A140
   clear A140
   replace H := Option.bind_eq_some_iff.mp H
   obtain ⟨⟨t415, t416⟩, A150, H⟩ := H
   replace H : ((laws_eqDeltasResult.f k t415 t416 t404 t405).bind fun t420 => (if t420 = true then ((laws_toFileS.f k l0).bind fun t421 => ((laws_eqFileS.f k t409 t421).bind fun t424 => (if t424 = true then ((laws_toFileS.f k l1).bind fun t425 => ((laws_eqFileS.f k t412 t425).bind fun t428 => (if t428 = true then ((laws_markFileS.f k t409 1).bind fun bt429 => ((laws_markFileS.f k t412 bt429.1).bind fun bt431 => (if bt431.1 < 0 then (laws_FnExactDiffFiles.j0 k l0 l1 true t404 t405 t415 t416) else ((laws_eqDeltasResult.f k t415 t416 t404 t405).bind fun t433 => (laws_FnExactDiffFiles.j0 k l0 l1 (!t433) t404 t405 t415 t416))))) else (some false)))) else (some false)))) else (some false))) = some r := H
   have A15 := zK A150
   clear A150
   replace H := Option.bind_eq_some_iff.mp H
   obtain ⟨t420, A160, H⟩ := H
   replace H : (if t420 = true then ((laws_toFileS.f k l0).bind fun t421 => ((laws_eqFileS.f k t409 t421).bind fun t424 => (if t424 = true then ((laws_toFileS.f k l1).bind fun t425 => ((laws_eqFileS.f k t412 t425).bind fun t428 => (if t428 = true then ((laws_markFileS.f k t409 1).bind fun bt429 => ((laws_markFileS.f k t412 bt429.1).bind fun bt431 => (if bt431.1 < 0 then (laws_FnExactDiffFiles.j0 k l0 l1 true t404 t405 t415 t416) else ((laws_eqDeltasResult.f k t415 t416 t404 t405).bind fun t433 => (laws_FnExactDiffFiles.j0 k l0 l1 (!t433) t404 t405 t415 t416))))) else (some false)))) else (some false)))) else (some false)) = some r := H
   have A16 := zK A160
   clear A160
   by_cases c17 : t420 = true
   ·
    subst c17
    have H1 : ((laws_toFileS.f k l0).bind fun t421 => ((laws_eqFileS.f k t409 t421).bind fun t424 => (if t424 = true then ((laws_toFileS.f k l1).bind fun t425 => ((laws_eqFileS.f k t412 t425).bind fun t428 => (if t428 = true then ((laws_markFileS.f k t409 1).bind fun bt429 => ((laws_markFileS.f k t412 bt429.1).bind fun bt431 => (if bt431.1 < 0 then (laws_FnExactDiffFiles.j0 k l0 l1 true t404 t405 t415 t416) else ((laws_eqDeltasResult.f k t415 t416 t404 t405).bind fun t433 => (laws_FnExactDiffFiles.j0 k l0 l1 (!t433) t404 t405 t415 t416))))) else (some false)))) else (some false)))) = some r := by rw [if_pos rfl] at H; exact H
    clear H
    have H := H1
    clear H1
    replace H := Option.bind_eq_some_iff.mp H
    obtain ⟨t421, A180, H⟩ := H
    replace H : ((laws_eqFileS.f k t409 t421).bind fun t424 => (if t424 = true then ((laws_toFileS.f k l1).bind fun t425 => ((laws_eqFileS.f k t412 t425).bind fun t428 => (if t428 = true then ((laws_markFileS.f k t409 1).bind fun bt429 => ((laws_markFileS.f k t412 bt429.1).bind fun bt431 => (if bt431.1 < 0 then (laws_FnExactDiffFiles.j0 k l0 l1 true t404 t405 t415 t416) else ((laws_eqDeltasResult.f k t415 t416 t404 t405).bind fun t433 => (laws_FnExactDiffFiles.j0 k l0 l1 (!t433) t404 t405 t415 t416))))) else (some false)))) else (some false))) = some r := H
    have A18 := zK A180
    clear A180
    replace H := Option.bind_eq_some_iff.mp H
    obtain ⟨t424, A190, H⟩ := H
    replace H : (if t424 = true then ((laws_toFileS.f k l1).bind fun t425 => ((laws_eqFileS.f k t412 t425).bind fun t428 => (if t428 = true then ((laws_markFileS.f k t409 1).bind fun bt429 => ((laws_markFileS.f k t412 bt429.1).bind fun bt431 => (if bt431.1 < 0 then (laws_FnExactDiffFiles.j0 k l0 l1 true t404 t405 t415 t416) else ((laws_eqDeltasResult.f k t415 t416 t404 t405).bind fun t433 => (laws_FnExactDiffFiles.j0 k l0 l1 (!t433) t404 t405 t415 t416))))) else (some false)))) else (some false)) = some r := H
    have A19 := zK A190
    clear A190
    by_cases c20 : t424 = true
    ·
     subst c20
     have H1 : ((laws_toFileS.f k l1).bind fun t425 => ((laws_eqFileS.f k t412 t425).bind fun t428 => (if t428 = true then ((laws_markFileS.f k t409 1).bind fun bt429 => ((laws_markFileS.f k t412 bt429.1).bind fun bt431 => (if bt431.1 < 0 then (laws_FnExactDiffFiles.j0 k l0 l1 true t404 t405 t415 t416) else ((laws_eqDeltasResult.f k t415 t416 t404 t405).bind fun t433 => (laws_FnExactDiffFiles.j0 k l0 l1 (!t433) t404 t405 t415 t416))))) else (some false)))) = some r := by rw [if_pos rfl] at H; exact H
     clear H
     have H := H1
     clear H1
     replace H := Option.bind_eq_some_iff.mp H
     obtain ⟨t425, A210, H⟩ := H
     replace H : ((laws_eqFileS.f k t412 t425).bind fun t428 => (if t428 = true then ((laws_markFileS.f k t409 1).bind fun bt429 => ((laws_markFileS.f k t412 bt429.1).bind fun bt431 => (if bt431.1 < 0 then (laws_FnExactDiffFiles.j0 k l0 l1 true t404 t405 t415 t416) else ((laws_eqDeltasResult.f k t415 t416 t404 t405).bind fun t433 => (laws_FnExactDiffFiles.j0 k l0 l1 (!t433) t404 t405 t415 t416))))) else (some false))) = some r := H
     have A21 := zK A210
     clear A210
     replace H := Option.bind_eq_some_iff.mp H
     obtain ⟨t428, A220, H⟩ := H
     replace H : (if t428 = true then ((laws_markFileS.f k t409 1).bind fun bt429 => ((laws_markFileS.f k t412 bt429.1).bind fun bt431 => (if bt431.1 < 0 then (laws_FnExactDiffFiles.j0 k l0 l1 true t404 t405 t415 t416) else ((laws_eqDeltasResult.f k t415 t416 t404 t405).bind fun t433 => (laws_FnExactDiffFiles.j0 k l0 l1 (!t433) t404 t405 t415 t416))))) else (some false)) = some r := H
     have A22 := zK A220
     clear A220
     by_cases c23 : t428 = true
     ·
      subst c23
      have H1 : ((laws_markFileS.f k t409 1).bind fun bt429 => ((laws_markFileS.f k t412 bt429.1).bind fun bt431 => (if bt431.1 < 0 then (laws_FnExactDiffFiles.j0 k l0 l1 true t404 t405 t415 t416) else ((laws_eqDeltasResult.f k t415 t416 t404 t405).bind fun t433 => (laws_FnExactDiffFiles.j0 k l0 l1 (!t433) t404 t405 t415 t416))))) = some r := by rw [if_pos rfl] at H; exact H
      clear H
      have H := H1
      clear H1
      replace H := Option.bind_eq_some_iff.mp H
      obtain ⟨⟨t429, t430⟩, A240, H⟩ := H
      replace H : ((laws_markFileS.f k t412 t429).bind fun bt431 => (if bt431.1 < 0 then (laws_FnExactDiffFiles.j0 k l0 l1 true t404 t405 t415 t416) else ((laws_eqDeltasResult.f k t415 t416 t404 t405).bind fun t433 => (laws_FnExactDiffFiles.j0 k l0 l1 (!t433) t404 t405 t415 t416)))) = some r := H
      have A24 := zK A240
      clear A240
      replace H := Option.bind_eq_some_iff.mp H
      obtain ⟨⟨t431, t432⟩, A250, H⟩ := H
      replace H : (if t431 < 0 then (laws_FnExactDiffFiles.j0 k l0 l1 true t404 t405 t415 t416) else ((laws_eqDeltasResult.f k t415 t416 t404 t405).bind fun t433 => (laws_FnExactDiffFiles.j0 k l0 l1 (!t433) t404 t405 t415 t416))) = some r := H
      have A25 := zK A250
      clear A250
      have HC26 := zK H
      clear H
      go_enter Tryz.func3, Tryz.ntmps3
      go_upto_region 21 with (first | ((with_reducible refine gate_callee (f := 9) rfl ?_); refine goesL_ (some 16) rfl rfl Tryz.func9 (by kernel_rfl) rfl #[.slice A0 l0.length c0, .int .i64 1048576] rfl (by (try simp only [List.map_toArray, List.map_cons, List.map_nil]); first | done | rfl | (simp only [List.length_drop, List.length_take]; rfl)) ?_; (with_reducible refine (laws_szFileS.calls k _ _ l0 1048576 t396 _ ?side1 ?side2 A3.out).mono ?_); (case side1 => repeat (first | exact HR0.out | (with_reducible refine Kd.C_alloc ?_ _) | (with_reducible refine Kd.C_drewN ?_ _) | (with_reducible refine Kd.C_drew ?_))); (case side2 => exact HC0.out); rintro e w27 ⟨rfl, hb⟩; refine ⟨_, rfl, ?_⟩; have n0_ := zK (below_step (by repeat (first | (with_reducible first | exact HB.out | apply zA | apply zN | apply zD) | exact HB.out)) hb); clear HB; have HB := n0_; clear n0_; (try clear hb); (try clear hb2); (try clear hk); (try clear hi)) | ((with_reducible refine gate_callee (f := 9) rfl ?_); refine goesL_ (some 21) rfl rfl Tryz.func9 (by kernel_rfl) rfl #[.slice A1 l1.length c1, .int .i64 t396] rfl (by (try simp only [List.map_toArray, List.map_cons, List.map_nil]); first | done | rfl | (simp only [List.length_drop, List.length_take]; rfl)) ?_; (with_reducible refine (laws_szFileS.calls k _ _ l1 t396 t397 _ ?side1 ?side2 A6.out).mono ?_); (case side1 => repeat (first | exact (Kd.C_below HR1.out HB.out) | (with_reducible refine Kd.C_alloc ?_ _) | (with_reducible refine Kd.C_drewN ?_ _) | (with_reducible refine Kd.C_drew ?_))); (case side2 => exact HC1.out); rintro e w28 ⟨rfl, hb⟩; refine ⟨_, rfl, ?_⟩; have n0_ := zK (below_step (by repeat (first | (with_reducible first | exact HB.out | apply zA | apply zN | apply zD) | exact HB.out)) hb); clear HB; have HB := n0_; clear n0_; (try clear hb); (try clear hb2); (try clear hk); (try clear hi)) | ((with_reducible refine gate_callee (f := 11) rfl ?_); refine goesL_ (some 25) rfl rfl Tryz.func11 (by kernel_rfl) rfl #[.slice A0 l0.length c0] rfl (by (try simp only [List.map_toArray, List.map_cons, List.map_nil]); first | done | rfl | (simp only [List.length_drop, List.length_take]; rfl)) ?_; (with_reducible refine (laws_toFileS.calls k _ _ l0 t398 _ ?side1 ?side2 A10.out).mono ?_); (case side1 => repeat (first | exact (Kd.C_below HR0.out HB.out) | (with_reducible refine Kd.C_alloc ?_ _) | (with_reducible refine Kd.C_drewN ?_ _) | (with_reducible refine Kd.C_drew ?_))); (case side2 => exact HC0.out); rintro e w29 ⟨v399, rfl, ho0, hb⟩; refine ⟨_, rfl, ?_⟩; have n0_ := zK (Kd.R_lower ho0 (below_size (by repeat (first | (with_reducible first | exact HB.out | apply zA | apply zN | apply zD) | exact HB.out)))); have n1_ := zK (below_step (by repeat (first | (with_reducible first | exact HB.out | apply zA | apply zN | apply zD) | exact HB.out)) hb); clear HB; have HO400 := n0_; have HB := n1_; clear n0_ n1_; (try clear hb); (try clear hb2); (try clear hk); (try clear hi); (try clear ho0)) | ((with_reducible refine gate_callee (f := 11) rfl ?_); refine goesL_ (some 27) rfl rfl Tryz.func11 (by kernel_rfl) rfl #[.slice A1 l1.length c1] rfl (by (try simp only [List.map_toArray, List.map_cons, List.map_nil]); first | done | rfl | (simp only [List.length_drop, List.length_take]; rfl)) ?_; (with_reducible refine (laws_toFileS.calls k _ _ l1 t401 _ ?side1 ?side2 A11.out).mono ?_); (case side1 => repeat (first | exact (Kd.C_below HR1.out HB.out) | (with_reducible refine Kd.C_alloc ?_ _) | (with_reducible refine Kd.C_drewN ?_ _) | (with_reducible refine Kd.C_drew ?_))); (case side2 => exact HC1.out); rintro e w30 ⟨v402, rfl, ho0, hb⟩; refine ⟨_, rfl, ?_⟩; have n0_ := zK (Kd.R_elder' (by (with_reducible repeat (first | apply zR | apply zV | apply zW)); exact HO400.out) (Kd.R_base ho0) hb); have n1_ := zK (Kd.R_lower (Kd.R_new' ho0 (Kd.R_lt (by (with_reducible repeat (first | apply zR | apply zV | apply zW)); exact HO400.out))) (below_size (by repeat (first | (with_reducible first | exact HB.out | apply zA | apply zN | apply zD) | exact HB.out)))); have n2_ := zK (below_step (by repeat (first | (with_reducible first | exact HB.out | apply zA | apply zN | apply zD) | exact HB.out)) hb); clear HO400; clear HB; have HO400 := n0_; have HO403 := n1_; have HB := n2_; clear n0_ n1_ n2_; (try clear hb); (try clear hb2); (try clear hk); (try clear hi); (try clear ho0); obtain ⟨Ao31, co31, eo31⟩ := Kd.R_slice HO400.out; subst eo31; obtain ⟨Ao32, co32, eo32⟩ := Kd.R_slice HO403.out; subst eo32) | ((with_reducible refine gate_callee (f := 10) rfl ?_); refine goesL_ (some 28) rfl rfl Tryz.func10 (by kernel_rfl) rfl #[.slice Ao31 t398.length co31, .slice Ao32 t401.length co32] rfl (by (try simp only [List.map_toArray, List.map_cons, List.map_nil]); first | done | rfl | (simp only [List.length_drop, List.length_take]; rfl)) ?_; (with_reducible refine (spec_DiffFiles.calls k _ _ t398 _ _ t401 t404 t405 _ ?side1 ?side2 ?side3 ?side4 A12.out).mono ?_); (case side1 => repeat (first | exact (Kd.R_reads' HO400.out).2.2 | (with_reducible refine Kd.C_alloc ?_ _) | (with_reducible refine Kd.C_drewN ?_ _) | (with_reducible refine Kd.C_drew ?_))); (case side2 => exact (Kd.R_reads' HO400.out).2.1); (case side3 => repeat (first | exact (Kd.R_reads' HO403.out).2.2 | (with_reducible refine Kd.C_alloc ?_ _) | (with_reducible refine Kd.C_drewN ?_ _) | (with_reducible refine Kd.C_drew ?_))); (case side4 => exact (Kd.R_reads' HO403.out).2.1); rintro e w33 ⟨v406, rfl, ho0, hb⟩; refine ⟨_, rfl, ?_⟩; have n0_ := zK (Kd.R_below (by (with_reducible repeat (first | apply zR | apply zV | apply zW)); exact HO400.out) hb); have n1_ := zK (Kd.R_below (by (with_reducible repeat (first | apply zR | apply zV | apply zW)); exact HO403.out) hb); have n2_ := zK (Kd.R_lower ho0 (below_size (by repeat (first | (with_reducible first | exact HB.out | apply zA | apply zN | apply zD) | exact HB.out)))); have n3_ := zK (below_step (by repeat (first | (with_reducible first | exact HB.out | apply zA | apply zN | apply zD) | exact HB.out)) hb); clear HO400; clear HO403; clear HB; have HO400 := n0_; have HO403 := n1_; have HO407 := n2_; have HB := n3_; clear n0_ n1_ n2_ n3_; (try clear hb); (try clear hb2); (try clear hk); (try clear hi); (try clear ho0)) | ((with_reducible refine gate_dst (N := 6) rfl ?_); refine box_event ?hg (N := 6) ?hd (cs := #[.int .i64 0, .slice none 0 0]) (t := 26) ?hr ?_; (case hd => rfl); (case hg => rfl); (case hr => first | (go_simp; done) | (go_simp; rfl)); intro gb408 hg w34 hbox hb; have n0_ := zK (Kd.R_below (by (with_reducible repeat (first | apply zR | apply zV | apply zW)); exact HO400.out) hb); have n1_ := zK (Kd.R_below (by (with_reducible repeat (first | apply zR | apply zV | apply zW)); exact HO403.out) hb); have n2_ := zK (Kd.R_below (by (with_reducible repeat (first | apply zR | apply zV | apply zW)); exact HO407.out) hb); have n3_ := zK (below_step (by repeat (first | (with_reducible first | exact HB.out | apply zA | apply zN | apply zD) | exact HB.out)) hb); have n4_ := zK (hbox); have n5_ := zK ((by rw [hg]; exact (below_size (by repeat (first | (with_reducible first | exact HB.out | apply zA | apply zN | apply zD) | exact HB.out))) : w.heap.size ≤ gb408)); have n6_ := zK ((by rw [hg]; exact (below_size (by repeat (first | (with_reducible first | exact HB.out | apply zA | apply zN | apply zD) | exact HB.out))) : w.heap.size ≤ gb408)); clear HO400; clear HO403; clear HO407; clear HB; have HO400 := n0_; have HO403 := n1_; have HO407 := n2_; have HB := n3_; have BK408 := n4_; have GW408 := n5_; have GE408 := n6_; clear n0_ n1_ n2_ n3_ n4_ n5_ n6_; clear hb hbox hg; have hcz35_0 : w34.cell? ⟨gb408, 0, none⟩ = some (.int .i64 0) := (blk_cell BK408.out 0).trans rfl; have hcz35_1 : w34.cell? ⟨gb408, 1, none⟩ = some (.slice none 0 0) := (blk_cell BK408.out 1).trans rfl; have hfz35_0 := blk_frozen BK408.out 0; have hfz35_1 := blk_frozen BK408.out 1; obtain ⟨Ao36, co36, eo36⟩ := Kd.R_slice HO407.out; subst eo36) | ((with_reducible refine gate_callee (f := 11) rfl ?_); refine goesL_ (some 30) rfl rfl Tryz.func11 (by kernel_rfl) rfl #[.slice A0 l0.length c0] rfl (by (try simp only [List.map_toArray, List.map_cons, List.map_nil]); first | done | rfl | (simp only [List.length_drop, List.length_take]; rfl)) ?_; (with_reducible refine (laws_toFileS.calls k _ _ l0 t409 _ ?side1 ?side2 A13.out).mono ?_); (case side1 => exact Kd.C_below HR0.out (by repeat (first | (with_reducible first | exact HB.out | apply zA | apply zN | apply zD | refine below_set ?_ GE408.out) | exact HB.out))); (case side2 => exact HC0.out); rintro e w37 ⟨v410, rfl, ho0, hb⟩; refine ⟨_, rfl, ?_⟩; have n0_ := zK (Kd.R_elder' (by (with_reducible repeat (first | apply zR | apply zV | apply zW)); exact (Kd.R_mono (Kd.R_far (p := ⟨gb408, 1, none⟩) (Kd.R_far (p := ⟨gb408, 0, none⟩) (Kd.R_types HO400.out BK408.out (by decide)) (fun _ hk => hk.2) (.int .i64 t404)) (fun _ hk => hk.2) (.slice Ao36 t405.length co36)) (fun _ h_ => h_.1))) (Kd.R_base ho0) hb); have n1_ := zK (Kd.R_elder' (by (with_reducible repeat (first | apply zR | apply zV | apply zW)); exact (Kd.R_mono (Kd.R_far (p := ⟨gb408, 1, none⟩) (Kd.R_far (p := ⟨gb408, 0, none⟩) (Kd.R_types HO403.out BK408.out (by decide)) (fun _ hk => hk.2) (.int .i64 t404)) (fun _ hk => hk.2) (.slice Ao36 t405.length co36)) (fun _ h_ => h_.1))) (Kd.R_base ho0) hb); have n2_ := zK (Kd.R_below (by (with_reducible repeat (first | apply zR | apply zV | apply zW)); exact (Kd.R_mono (Kd.R_far (p := ⟨gb408, 1, none⟩) (Kd.R_far (p := ⟨gb408, 0, none⟩) (Kd.R_types HO407.out BK408.out (by decide)) (fun _ hk => hk.2) (.int .i64 t404)) (fun _ hk => hk.2) (.slice Ao36 t405.length co36)) (fun _ h_ => h_.1))) hb); have n3_ := zK (Kd.R_lower (Kd.R_new' (Kd.R_new' ho0 (Kd.R_lt (by (with_reducible repeat (first | apply zR | apply zV | apply zW)); exact (Kd.R_mono (Kd.R_far (p := ⟨gb408, 1, none⟩) (Kd.R_far (p := ⟨gb408, 0, none⟩) (Kd.R_types HO400.out BK408.out (by decide)) (fun _ hk => hk.2) (.int .i64 t404)) (fun _ hk => hk.2) (.slice Ao36 t405.length co36)) (fun _ h_ => h_.1))))) (Kd.R_lt (by (with_reducible repeat (first | apply zR | apply zV | apply zW)); exact (Kd.R_mono (Kd.R_far (p := ⟨gb408, 1, none⟩) (Kd.R_far (p := ⟨gb408, 0, none⟩) (Kd.R_types HO403.out BK408.out (by decide)) (fun _ hk => hk.2) (.int .i64 t404)) (fun _ hk => hk.2) (.slice Ao36 t405.length co36)) (fun _ h_ => h_.1))))) (below_size (by repeat (first | (with_reducible first | exact HB.out | apply zA | apply zN | apply zD | refine below_set ?_ GE408.out) | exact HB.out)))); have n4_ := zK (blk_below (g := gb408) (o := .cells #[.int .i64 t404, .slice Ao36 t405.length co36] 26 (0, 0)) (by (with_reducible repeat (first | refine zM ?_ _ | refine zP ?_ | refine zQ ?_ _)); refine blk_put (cs := #[.int .i64 t404, .slice none 0 0]) ?_ 1 _ rfl; (with_reducible repeat (first | refine zM ?_ _ | refine zP ?_ | refine zQ ?_ _)); refine blk_put (cs := #[.int .i64 0, .slice none 0 0]) ?_ 0 _ rfl; (with_reducible repeat (first | refine zM ?_ _ | refine zP ?_ | refine zQ ?_ _)); exact BK408.out) hb); have n5_ := zK (below_step (by repeat (first | (with_reducible first | exact HB.out | apply zA | apply zN | apply zD | refine below_set ?_ GE408.out) | exact HB.out)) hb); clear HO400; clear HO403; clear HO407; clear BK408; clear HB; have HO400 := n0_; have HO403 := n1_; have HO407 := n2_; have HO411 := n3_; have BK408 := n4_; have HB := n5_; clear n0_ n1_ n2_ n3_ n4_ n5_; (try clear hb); (try clear hb2); (try clear hk); (try clear hi); (try clear ho0)) | ((with_reducible refine gate_callee (f := 11) rfl ?_); refine goesL_ (some 32) rfl rfl Tryz.func11 (by kernel_rfl) rfl #[.slice A1 l1.length c1] rfl (by (try simp only [List.map_toArray, List.map_cons, List.map_nil]); first | done | rfl | (simp only [List.length_drop, List.length_take]; rfl)) ?_; (with_reducible refine (laws_toFileS.calls k _ _ l1 t412 _ ?side1 ?side2 A14.out).mono ?_); (case side1 => repeat (first | exact (Kd.C_below HR1.out HB.out) | (with_reducible refine Kd.C_alloc ?_ _) | (with_reducible refine Kd.C_drewN ?_ _) | (with_reducible refine Kd.C_drew ?_))); (case side2 => exact HC1.out); rintro e w38 ⟨v413, rfl, ho0, hb⟩; refine ⟨_, rfl, ?_⟩; have n0_ := zK (Kd.R_elder' (by (with_reducible repeat (first | apply zR | apply zV | apply zW)); exact HO400.out) (Kd.R_base ho0) hb); have n1_ := zK (Kd.R_elder' (by (with_reducible repeat (first | apply zR | apply zV | apply zW)); exact HO403.out) (Kd.R_base ho0) hb); have n2_ := zK (Kd.R_below (by (with_reducible repeat (first | apply zR | apply zV | apply zW)); exact HO407.out) hb); have n3_ := zK (Kd.R_elder' (by (with_reducible repeat (first | apply zR | apply zV | apply zW)); exact HO411.out) (Kd.R_base ho0) hb); have n4_ := zK (Kd.R_lower (Kd.R_new' (Kd.R_new' (Kd.R_new' ho0 (Kd.R_lt (by (with_reducible repeat (first | apply zR | apply zV | apply zW)); exact HO400.out))) (Kd.R_lt (by (with_reducible repeat (first | apply zR | apply zV | apply zW)); exact HO403.out))) (Kd.R_lt (by (with_reducible repeat (first | apply zR | apply zV | apply zW)); exact HO411.out))) (below_size (by repeat (first | (with_reducible first | exact HB.out | apply zA | apply zN | apply zD | refine below_set ?_ GE408.out) | exact HB.out)))); have n5_ := zK (blk_below (g := gb408) (o := .cells #[.int .i64 t404, .slice Ao36 t405.length co36] 26 (0, 0)) (by (with_reducible repeat (first | refine zM ?_ _ | refine zP ?_ | refine zQ ?_ _)); exact BK408.out) hb); have n6_ := zK (below_step (by repeat (first | (with_reducible first | exact HB.out | apply zA | apply zN | apply zD | refine below_set ?_ GE408.out) | exact HB.out)) hb); clear HO400; clear HO403; clear HO407; clear HO411; clear BK408; clear HB; have HO400 := n0_; have HO403 := n1_; have HO407 := n2_; have HO411 := n3_; have HO414 := n4_; have BK408 := n5_; have HB := n6_; clear n0_ n1_ n2_ n3_ n4_ n5_ n6_; (try clear hb); (try clear hb2); (try clear hk); (try clear hi); (try clear ho0); obtain ⟨Ao39, co39, eo39⟩ := Kd.R_slice HO411.out; subst eo39; obtain ⟨Ao40, co40, eo40⟩ := Kd.R_slice HO414.out; subst eo40) | ((with_reducible refine gate_callee (f := 12) rfl ?_); refine goesL_ (some 35) rfl rfl Tryz.func12 (by kernel_rfl) rfl #[.slice Ao39 t409.length co39, .slice Ao40 t412.length co40] rfl (by (try simp only [List.map_toArray, List.map_cons, List.map_nil]); first | done | rfl | (simp only [List.length_drop, List.length_take]; rfl)) ?_; (with_reducible refine (impl_DiffFiles.calls k (fun k_ => some k_ = (.slice Ao39 t409.length co39 : Value).ownBlock) _ _ t409 (fun k_ => some k_ = (.slice Ao40 t412.length co40 : Value).ownBlock) _ _ t412 t415 t416 _ ?side1 ?side2 A15.out).mono ?_); (case side1 => exact Kd.R_V (Kd.R_tight rfl (Kd.R_types (Kd.R_apart' (HO411.out) (Kd.R_typed HO407.out) (by decide)) BK408.out (by decide)))); (case side2 => exact Kd.R_V (Kd.R_tight rfl (Kd.R_types (Kd.R_apart' (HO414.out) (Kd.R_typed HO407.out) (by decide)) BK408.out (by decide)))); rintro e w41 ⟨v417, rfl, ho0, hb⟩; refine ⟨_, rfl, ?_⟩; have n0_ := zK (Kd.R_below (by (with_reducible repeat (first | apply zR | apply zV | apply zW)); exact HO400.out) hb); have n1_ := zK (Kd.R_below (by (with_reducible repeat (first | apply zR | apply zV | apply zW)); exact HO403.out) hb); have n2_ := zK (Kd.R_elder' (by (with_reducible repeat (first | apply zR | apply zV | apply zW)); exact HO407.out) (Kd.R_base ho0) hb); have n3_ := zK (Kd.R_below (by (with_reducible repeat (first | apply zR | apply zV | apply zW)); exact HO411.out) hb); have n4_ := zK (Kd.R_below (by (with_reducible repeat (first | apply zR | apply zV | apply zW)); exact HO414.out) hb); have n5_ := zK (Kd.R_lower (Kd.R_new' (Kd.R_mono (ok' := fun k_ => True) ho0 (fun _ hk_ => trivial)) (Kd.R_lt (by (with_reducible repeat (first | apply zR | apply zV | apply zW)); exact HO407.out))) (below_size (by repeat (first | (with_reducible first | exact HB.out | apply zA | apply zN | apply zD | refine below_set ?_ GE408.out) | exact HB.out)))); have n6_ := zK (blk_below (g := gb408) (o := .cells #[.int .i64 t404, .slice Ao36 t405.length co36] 26 (0, 0)) (by (with_reducible repeat (first | refine zM ?_ _ | refine zP ?_ | refine zQ ?_ _)); exact BK408.out) hb); have n7_ := zK (below_step (by repeat (first | (with_reducible first | exact HB.out | apply zA | apply zN | apply zD | refine below_set ?_ GE408.out) | exact HB.out)) hb); clear HO400; clear HO403; clear HO407; clear HO411; clear HO414; clear BK408; clear HB; have HO400 := n0_; have HO403 := n1_; have HO407 := n2_; have HO411 := n3_; have HO414 := n4_; have HO418 := n5_; have BK408 := n6_; have HB := n7_; clear n0_ n1_ n2_ n3_ n4_ n5_ n6_ n7_; (try clear hb); (try clear hb2); (try clear hk); (try clear hi); (try clear ho0)) | ((with_reducible refine gate_dst (N := 9) rfl ?_); refine box_event ?hg (N := 9) ?hd (cs := #[.int .i64 0, .slice none 0 0]) (t := 26) ?hr ?_; (case hd => rfl); (case hg => rfl); (case hr => first | (go_simp; done) | (go_simp; rfl)); intro gb419 hg w42 hbox hb; have n0_ := zK (Kd.R_below (by (with_reducible repeat (first | apply zR | apply zV | apply zW)); exact HO400.out) hb); have n1_ := zK (Kd.R_below (by (with_reducible repeat (first | apply zR | apply zV | apply zW)); exact HO403.out) hb); have n2_ := zK (Kd.R_below (by (with_reducible repeat (first | apply zR | apply zV | apply zW)); exact HO407.out) hb); have n3_ := zK (Kd.R_below (by (with_reducible repeat (first | apply zR | apply zV | apply zW)); exact HO411.out) hb); have n4_ := zK (Kd.R_below (by (with_reducible repeat (first | apply zR | apply zV | apply zW)); exact HO414.out) hb); have n5_ := zK (Kd.R_below (by (with_reducible repeat (first | apply zR | apply zV | apply zW)); exact HO418.out) hb); have n6_ := zK (blk_below (g := gb408) (o := .cells #[.int .i64 t404, .slice Ao36 t405.length co36] 26 (0, 0)) (by (with_reducible repeat (first | refine zM ?_ _ | refine zP ?_ | refine zQ ?_ _)); exact BK408.out) hb); have n7_ := zK (below_step (by repeat (first | (with_reducible first | exact HB.out | apply zA | apply zN | apply zD | refine below_set ?_ GE408.out) | exact HB.out)) hb); have n8_ := zK (hbox); have n9_ := zK ((by rw [hg]; exact (below_size (by repeat (first | (with_reducible first | exact HB.out | apply zA | apply zN | apply zD | refine below_set ?_ GE408.out) | exact HB.out))) : w.heap.size ≤ gb419)); have n10_ := zK ((by rw [hg]; exact (below_size (by repeat (first | (with_reducible first | exact HB.out | apply zA | apply zN | apply zD | refine below_set ?_ GE408.out) | exact HB.out))) : w.heap.size ≤ gb419)); have n11_ := zK ((by rw [hg]; exact Nat.ne_of_lt (blk_lt (g := gb408) (o := .cells #[.int .i64 t404, .slice Ao36 t405.length co36] 26 (0, 0)) (by (with_reducible repeat (first | refine zM ?_ _ | refine zP ?_ | refine zQ ?_ _)); exact BK408.out)) : gb408 ≠ gb419)); have n12_ := zK ((by rw [hg]; exact Nat.ne_of_gt (blk_lt (g := gb408) (o := .cells #[.int .i64 t404, .slice Ao36 t405.length co36] 26 (0, 0)) (by (with_reducible repeat (first | refine zM ?_ _ | refine zP ?_ | refine zQ ?_ _)); exact BK408.out)) : gb419 ≠ gb408)); clear HO400; clear HO403; clear HO407; clear HO411; clear HO414; clear HO418; clear BK408; clear HB; have HO400 := n0_; have HO403 := n1_; have HO407 := n2_; have HO411 := n3_; have HO414 := n4_; have HO418 := n5_; have BK408 := n6_; have HB := n7_; have BK419 := n8_; have GW419 := n9_; have GE419 := n10_; have NB408_419 := n11_; have NB419_408 := n12_; clear n0_ n1_ n2_ n3_ n4_ n5_ n6_ n7_ n8_ n9_ n10_ n11_ n12_; clear hb hbox hg; have hnb43 := NB419_408.out; have hnc43 := NB408_419.out; have hcz44_0 : w42.cell? ⟨gb419, 0, none⟩ = some (.int .i64 0) := (blk_cell BK419.out 0).trans rfl; have hcz44_1 : w42.cell? ⟨gb419, 1, none⟩ = some (.slice none 0 0) := (blk_cell BK419.out 1).trans rfl; have hfz44_0 := blk_frozen BK419.out 0; have hfz44_1 := blk_frozen BK419.out 1; obtain ⟨Ao45, co45, eo45⟩ := Kd.R_slice HO418.out; subst eo45; have hcz46_0 : w42.cell? ⟨gb408, 0, none⟩ = some (.int .i64 t404) := (blk_cell BK408.out 0).trans rfl; have hcz46_1 : w42.cell? ⟨gb408, 1, none⟩ = some (.slice Ao36 t405.length co36) := (blk_cell BK408.out 1).trans rfl; have hfz46_0 := blk_frozen BK408.out 0; have hfz46_1 := blk_frozen BK408.out 1) | ((with_reducible refine gate_callee (f := 13) rfl ?_); refine goesL_ (some 38) rfl rfl Tryz.func13 (by kernel_rfl) rfl #[.agg #[.int .i64 t415, .slice Ao45 t416.length co45], .agg #[.int .i64 t404, .slice Ao36 t405.length co36]] rfl (by (try simp only [List.map_toArray, List.map_cons, List.map_nil]); first | done | rfl | (simp only [List.length_drop, List.length_take]; rfl)) ?_; (with_reducible refine (laws_eqDeltasResult.calls k t415 _ _ t416 t404 _ _ t405 true _ ?side1 ?side2 ?side3 ?side4 A16.out).mono ?_); (case side1 => refine (Kd.R_reads' (e := 77) (base := w.heap.size) (ok := fun k_ => (True ∧ some k_ ≠ (.slice Ao36 t405.length co36 : Value).ownBlock)) (n := t416.length) (c := co45) ?_).2.2; exact (by (with_reducible repeat (first | apply zR | apply zV | apply zW)); exact (Kd.R_mono (Kd.R_far (p := ⟨gb419, 1, none⟩) (Kd.R_far (p := ⟨gb419, 0, none⟩) (Kd.R_types HO418.out BK419.out (by decide)) (fun _ hk => hk.2) (.int .i64 t415)) (fun _ hk => hk.2) (.slice Ao45 t416.length co45)) (fun _ h_ => h_.1)))); (case side2 => exact (Kd.R_reads' HO418.out).2.1); (case side3 => refine (Kd.R_reads' (e := 77) (base := w.heap.size) (ok := fun k_ => (True ∧ some k_ ≠ (.slice Ao45 t416.length co45 : Value).ownBlock)) (n := t405.length) (c := co36) ?_).2.2; exact (by (with_reducible repeat (first | apply zR | apply zV | apply zW)); exact (Kd.R_mono (Kd.R_far (p := ⟨gb419, 1, none⟩) (Kd.R_far (p := ⟨gb419, 0, none⟩) (Kd.R_types HO407.out BK419.out (by decide)) (fun _ hk => hk.2) (.int .i64 t415)) (fun _ hk => hk.2) (.slice Ao45 t416.length co45)) (fun _ h_ => h_.1)))); (case side4 => exact (Kd.R_reads' HO407.out).2.1); rintro e w47 ⟨rfl, hb⟩; refine ⟨_, rfl, ?_⟩; have n0_ := zK (Kd.R_below (by (with_reducible repeat (first | apply zR | apply zV | apply zW)); exact (Kd.R_mono (Kd.R_far (p := ⟨gb419, 1, none⟩) (Kd.R_far (p := ⟨gb419, 0, none⟩) (Kd.R_types HO400.out BK419.out (by decide)) (fun _ hk => hk.2) (.int .i64 t415)) (fun _ hk => hk.2) (.slice Ao45 t416.length co45)) (fun _ h_ => h_.1))) hb); have n1_ := zK (Kd.R_below (by (with_reducible repeat (first | apply zR | apply zV | apply zW)); exact (Kd.R_mono (Kd.R_far (p := ⟨gb419, 1, none⟩) (Kd.R_far (p := ⟨gb419, 0, none⟩) (Kd.R_types HO403.out BK419.out (by decide)) (fun _ hk => hk.2) (.int .i64 t415)) (fun _ hk => hk.2) (.slice Ao45 t416.length co45)) (fun _ h_ => h_.1))) hb); have n2_ := zK (Kd.R_below (by (with_reducible repeat (first | apply zR | apply zV | apply zW)); exact (Kd.R_mono (Kd.R_far (p := ⟨gb419, 1, none⟩) (Kd.R_far (p := ⟨gb419, 0, none⟩) (Kd.R_types HO407.out BK419.out (by decide)) (fun _ hk => hk.2) (.int .i64 t415)) (fun _ hk => hk.2) (.slice Ao45 t416.length co45)) (fun _ h_ => h_.1))) hb); have n3_ := zK (Kd.R_below (by (with_reducible repeat (first | apply zR | apply zV | apply zW)); exact (Kd.R_mono (Kd.R_far (p := ⟨gb419, 1, none⟩) (Kd.R_far (p := ⟨gb419, 0, none⟩) (Kd.R_types HO411.out BK419.out (by decide)) (fun _ hk => hk.2) (.int .i64 t415)) (fun _ hk => hk.2) (.slice Ao45 t416.length co45)) (fun _ h_ => h_.1))) hb); have n4_ := zK (Kd.R_below (by (with_reducible repeat (first | apply zR | apply zV | apply zW)); exact (Kd.R_mono (Kd.R_far (p := ⟨gb419, 1, none⟩) (Kd.R_far (p := ⟨gb419, 0, none⟩) (Kd.R_types HO414.out BK419.out (by decide)) (fun _ hk => hk.2) (.int .i64 t415)) (fun _ hk => hk.2) (.slice Ao45 t416.length co45)) (fun _ h_ => h_.1))) hb); have n5_ := zK (Kd.R_below (by (with_reducible repeat (first | apply zR | apply zV | apply zW)); exact (Kd.R_mono (Kd.R_far (p := ⟨gb419, 1, none⟩) (Kd.R_far (p := ⟨gb419, 0, none⟩) (Kd.R_types HO418.out BK419.out (by decide)) (fun _ hk => hk.2) (.int .i64 t415)) (fun _ hk => hk.2) (.slice Ao45 t416.length co45)) (fun _ h_ => h_.1))) hb); have n6_ := zK (blk_below (g := gb408) (o := .cells #[.int .i64 t404, .slice Ao36 t405.length co36] 26 (0, 0)) (by (with_reducible repeat (first | refine zM ?_ _ | refine zP ?_ | refine zQ ?_ _)); refine blk_far ?_ NB408_419.out _; (with_reducible repeat (first | refine zM ?_ _ | refine zP ?_ | refine zQ ?_ _)); refine blk_far ?_ NB408_419.out _; (with_reducible repeat (first | refine zM ?_ _ | refine zP ?_ | refine zQ ?_ _)); exact BK408.out) hb); have n7_ := zK (blk_below (g := gb419) (o := .cells #[.int .i64 t415, .slice Ao45 t416.length co45] 26 (0, 0)) (by (with_reducible repeat (first | refine zM ?_ _ | refine zP ?_ | refine zQ ?_ _)); refine blk_put (cs := #[.int .i64 t415, .slice none 0 0]) ?_ 1 _ rfl; (with_reducible repeat (first | refine zM ?_ _ | refine zP ?_ | refine zQ ?_ _)); refine blk_put (cs := #[.int .i64 0, .slice none 0 0]) ?_ 0 _ rfl; (with_reducible repeat (first | refine zM ?_ _ | refine zP ?_ | refine zQ ?_ _)); exact BK419.out) hb); have n8_ := zK (below_step (by repeat (first | (with_reducible first | exact HB.out | apply zA | apply zN | apply zD | refine below_set ?_ GE408.out | refine below_set ?_ GE419.out) | exact HB.out)) hb); clear HO400; clear HO403; clear HO407; clear HO411; clear HO414; clear HO418; clear BK408; clear BK419; clear HB; have HO400 := n0_; have HO403 := n1_; have HO407 := n2_; have HO411 := n3_; have HO414 := n4_; have HO418 := n5_; have BK408 := n6_; have BK419 := n7_; have HB := n8_; clear n0_ n1_ n2_ n3_ n4_ n5_ n6_ n7_ n8_; (try clear hb); (try clear hb2); (try clear hk); (try clear hi)) | ((with_reducible refine gate_callee (f := 11) rfl ?_); refine goesL_ (some 42) rfl rfl Tryz.func11 (by kernel_rfl) rfl #[.slice A0 l0.length c0] rfl (by (try simp only [List.map_toArray, List.map_cons, List.map_nil]); first | done | rfl | (simp only [List.length_drop, List.length_take]; rfl)) ?_; (with_reducible refine (laws_toFileS.calls k _ _ l0 t421 _ ?side1 ?side2 A18.out).mono ?_); (case side1 => repeat (first | exact (Kd.C_below HR0.out HB.out) | (with_reducible refine Kd.C_alloc ?_ _) | (with_reducible refine Kd.C_drewN ?_ _) | (with_reducible refine Kd.C_drew ?_))); (case side2 => exact HC0.out); rintro e w48 ⟨v422, rfl, ho0, hb⟩; refine ⟨_, rfl, ?_⟩; have n0_ := zK (Kd.R_elder' (by (with_reducible repeat (first | apply zR | apply zV | apply zW)); exact HO400.out) (Kd.R_base ho0) hb); have n1_ := zK (Kd.R_elder' (by (with_reducible repeat (first | apply zR | apply zV | apply zW)); exact HO403.out) (Kd.R_base ho0) hb); have n2_ := zK (Kd.R_below (by (with_reducible repeat (first | apply zR | apply zV | apply zW)); exact HO407.out) hb); have n3_ := zK (Kd.R_elder' (by (with_reducible repeat (first | apply zR | apply zV | apply zW)); exact HO411.out) (Kd.R_base ho0) hb); have n4_ := zK (Kd.R_elder' (by (with_reducible repeat (first | apply zR | apply zV | apply zW)); exact HO414.out) (Kd.R_base ho0) hb); have n5_ := zK (Kd.R_below (by (with_reducible repeat (first | apply zR | apply zV | apply zW)); exact HO418.out) hb); have n6_ := zK (Kd.R_lower (Kd.R_new' (Kd.R_new' (Kd.R_new' (Kd.R_new' ho0 (Kd.R_lt (by (with_reducible repeat (first | apply zR | apply zV | apply zW)); exact HO400.out))) (Kd.R_lt (by (with_reducible repeat (first | apply zR | apply zV | apply zW)); exact HO403.out))) (Kd.R_lt (by (with_reducible repeat (first | apply zR | apply zV | apply zW)); exact HO411.out))) (Kd.R_lt (by (with_reducible repeat (first | apply zR | apply zV | apply zW)); exact HO414.out))) (below_size (by repeat (first | (with_reducible first | exact HB.out | apply zA | apply zN | apply zD | refine below_set ?_ GE408.out | refine below_set ?_ GE419.out) | exact HB.out)))); have n7_ := zK (blk_below (g := gb408) (o := .cells #[.int .i64 t404, .slice Ao36 t405.length co36] 26 (0, 0)) (by (with_reducible repeat (first | refine zM ?_ _ | refine zP ?_ | refine zQ ?_ _)); exact BK408.out) hb); have n8_ := zK (blk_below (g := gb419) (o := .cells #[.int .i64 t415, .slice Ao45 t416.length co45] 26 (0, 0)) (by (with_reducible repeat (first | refine zM ?_ _ | refine zP ?_ | refine zQ ?_ _)); exact BK419.out) hb); have n9_ := zK (below_step (by repeat (first | (with_reducible first | exact HB.out | apply zA | apply zN | apply zD | refine below_set ?_ GE408.out | refine below_set ?_ GE419.out) | exact HB.out)) hb); clear HO400; clear HO403; clear HO407; clear HO411; clear HO414; clear HO418; clear BK408; clear BK419; clear HB; have HO400 := n0_; have HO403 := n1_; have HO407 := n2_; have HO411 := n3_; have HO414 := n4_; have HO418 := n5_; have HO423 := n6_; have BK408 := n7_; have BK419 := n8_; have HB := n9_; clear n0_ n1_ n2_ n3_ n4_ n5_ n6_ n7_ n8_ n9_; (try clear hb); (try clear hb2); (try clear hk); (try clear hi); (try clear ho0); obtain ⟨Ao49, co49, eo49⟩ := Kd.R_slice HO423.out; subst eo49) | ((with_reducible refine gate_callee (f := 14) rfl ?_); refine goesL_ (some 43) rfl rfl Tryz.func14 (by kernel_rfl) rfl #[.slice Ao39 t409.length co39, .slice Ao49 t421.length co49] rfl (by (try simp only [List.map_toArray, List.map_cons, List.map_nil]); first | done | rfl | (simp only [List.length_drop, List.length_take]; rfl)) ?_; (with_reducible refine (laws_eqFileS.calls k _ _ t409 _ _ t421 true _ ?side1 ?side2 ?side3 ?side4 A19.out).mono ?_); (case side1 => repeat (first | exact (Kd.R_reads' HO411.out).2.2 | (with_reducible refine Kd.C_alloc ?_ _) | (with_reducible refine Kd.C_drewN ?_ _) | (with_reducible refine Kd.C_drew ?_))); (case side2 => exact (Kd.R_reads' HO411.out).2.1); (case side3 => repeat (first | exact (Kd.R_reads' HO423.out).2.2 | (with_reducible refine Kd.C_alloc ?_ _) | (with_reducible refine Kd.C_drewN ?_ _) | (with_reducible refine Kd.C_drew ?_))); (case side4 => exact (Kd.R_reads' HO423.out).2.1); rintro e w50 ⟨rfl, hb⟩; refine ⟨_, rfl, ?_⟩; have n0_ := zK (Kd.R_below (by (with_reducible repeat (first | apply zR | apply zV | apply zW)); exact HO400.out) hb); have n1_ := zK (Kd.R_below (by (with_reducible repeat (first | apply zR | apply zV | apply zW)); exact HO403.out) hb); have n2_ := zK (Kd.R_below (by (with_reducible repeat (first | apply zR | apply zV | apply zW)); exact HO407.out) hb); have n3_ := zK (Kd.R_below (by (with_reducible repeat (first | apply zR | apply zV | apply zW)); exact HO411.out) hb); have n4_ := zK (Kd.R_below (by (with_reducible repeat (first | apply zR | apply zV | apply zW)); exact HO414.out) hb); have n5_ := zK (Kd.R_below (by (with_reducible repeat (first | apply zR | apply zV | apply zW)); exact HO418.out) hb); have n6_ := zK (Kd.R_below (by (with_reducible repeat (first | apply zR | apply zV | apply zW)); exact HO423.out) hb); have n7_ := zK (blk_below (g := gb408) (o := .cells #[.int .i64 t404, .slice Ao36 t405.length co36] 26 (0, 0)) (by (with_reducible repeat (first | refine zM ?_ _ | refine zP ?_ | refine zQ ?_ _)); exact BK408.out) hb); have n8_ := zK (blk_below (g := gb419) (o := .cells #[.int .i64 t415, .slice Ao45 t416.length co45] 26 (0, 0)) (by (with_reducible repeat (first | refine zM ?_ _ | refine zP ?_ | refine zQ ?_ _)); exact BK419.out) hb); have n9_ := zK (below_step (by repeat (first | (with_reducible first | exact HB.out | apply zA | apply zN | apply zD | refine below_set ?_ GE408.out | refine below_set ?_ GE419.out) | exact HB.out)) hb); clear HO400; clear HO403; clear HO407; clear HO411; clear HO414; clear HO418; clear HO423; clear BK408; clear BK419; clear HB; have HO400 := n0_; have HO403 := n1_; have HO407 := n2_; have HO411 := n3_; have HO414 := n4_; have HO418 := n5_; have HO423 := n6_; have BK408 := n7_; have BK419 := n8_; have HB := n9_; clear n0_ n1_ n2_ n3_ n4_ n5_ n6_ n7_ n8_ n9_; (try clear hb); (try clear hb2); (try clear hk); (try clear hi)) | ((with_reducible refine gate_callee (f := 11) rfl ?_); refine goesL_ (some 47) rfl rfl Tryz.func11 (by kernel_rfl) rfl #[.slice A1 l1.length c1] rfl (by (try simp only [List.map_toArray, List.map_cons, List.map_nil]); first | done | rfl | (simp only [List.length_drop, List.length_take]; rfl)) ?_; (with_reducible refine (laws_toFileS.calls k _ _ l1 t425 _ ?side1 ?side2 A21.out).mono ?_); (case side1 => repeat (first | exact (Kd.C_below HR1.out HB.out) | (with_reducible refine Kd.C_alloc ?_ _) | (with_reducible refine Kd.C_drewN ?_ _) | (with_reducible refine Kd.C_drew ?_))); (case side2 => exact HC1.out); rintro e w51 ⟨v426, rfl, ho0, hb⟩; refine ⟨_, rfl, ?_⟩; have n0_ := zK (Kd.R_elder' (by (with_reducible repeat (first | apply zR | apply zV | apply zW)); exact HO400.out) (Kd.R_base ho0) hb); have n1_ := zK (Kd.R_elder' (by (with_reducible repeat (first | apply zR | apply zV | apply zW)); exact HO403.out) (Kd.R_base ho0) hb); have n2_ := zK (Kd.R_below (by (with_reducible repeat (first | apply zR | apply zV | apply zW)); exact HO407.out) hb); have n3_ := zK (Kd.R_elder' (by (with_reducible repeat (first | apply zR | apply zV | apply zW)); exact HO411.out) (Kd.R_base ho0) hb); have n4_ := zK (Kd.R_elder' (by (with_reducible repeat (first | apply zR | apply zV | apply zW)); exact HO414.out) (Kd.R_base ho0) hb); have n5_ := zK (Kd.R_below (by (with_reducible repeat (first | apply zR | apply zV | apply zW)); exact HO418.out) hb); have n6_ := zK (Kd.R_elder' (by (with_reducible repeat (first | apply zR | apply zV | apply zW)); exact HO423.out) (Kd.R_base ho0) hb); have n7_ := zK (Kd.R_lower (Kd.R_new' (Kd.R_new' (Kd.R_new' (Kd.R_new' (Kd.R_new' ho0 (Kd.R_lt (by (with_reducible repeat (first | apply zR | apply zV | apply zW)); exact HO400.out))) (Kd.R_lt (by (with_reducible repeat (first | apply zR | apply zV | apply zW)); exact HO403.out))) (Kd.R_lt (by (with_reducible repeat (first | apply zR | apply zV | apply zW)); exact HO411.out))) (Kd.R_lt (by (with_reducible repeat (first | apply zR | apply zV | apply zW)); exact HO414.out))) (Kd.R_lt (by (with_reducible repeat (first | apply zR | apply zV | apply zW)); exact HO423.out))) (below_size (by repeat (first | (with_reducible first | exact HB.out | apply zA | apply zN | apply zD | refine below_set ?_ GE408.out | refine below_set ?_ GE419.out) | exact HB.out)))); have n8_ := zK (blk_below (g := gb408) (o := .cells #[.int .i64 t404, .slice Ao36 t405.length co36] 26 (0, 0)) (by (with_reducible repeat (first | refine zM ?_ _ | refine zP ?_ | refine zQ ?_ _)); exact BK408.out) hb); have n9_ := zK (blk_below (g := gb419) (o := .cells #[.int .i64 t415, .slice Ao45 t416.length co45] 26 (0, 0)) (by (with_reducible repeat (first | refine zM ?_ _ | refine zP ?_ | refine zQ ?_ _)); exact BK419.out) hb); have n10_ := zK (below_step (by repeat (first | (with_reducible first | exact HB.out | apply zA | apply zN | apply zD | refine below_set ?_ GE408.out | refine below_set ?_ GE419.out) | exact HB.out)) hb); clear HO400; clear HO403; clear HO407; clear HO411; clear HO414; clear HO418; clear HO423; clear BK408; clear BK419; clear HB; have HO400 := n0_; have HO403 := n1_; have HO407 := n2_; have HO411 := n3_; have HO414 := n4_; have HO418 := n5_; have HO423 := n6_; have HO427 := n7_; have BK408 := n8_; have BK419 := n9_; have HB := n10_; clear n0_ n1_ n2_ n3_ n4_ n5_ n6_ n7_ n8_ n9_ n10_; (try clear hb); (try clear hb2); (try clear hk); (try clear hi); (try clear ho0); obtain ⟨Ao52, co52, eo52⟩ := Kd.R_slice HO427.out; subst eo52) | ((with_reducible refine gate_callee (f := 14) rfl ?_); refine goesL_ (some 48) rfl rfl Tryz.func14 (by kernel_rfl) rfl #[.slice Ao40 t412.length co40, .slice Ao52 t425.length co52] rfl (by (try simp only [List.map_toArray, List.map_cons, List.map_nil]); first | done | rfl | (simp only [List.length_drop, List.length_take]; rfl)) ?_; (with_reducible refine (laws_eqFileS.calls k _ _ t412 _ _ t425 true _ ?side1 ?side2 ?side3 ?side4 A22.out).mono ?_); (case side1 => repeat (first | exact (Kd.R_reads' HO414.out).2.2 | (with_reducible refine Kd.C_alloc ?_ _) | (with_reducible refine Kd.C_drewN ?_ _) | (with_reducible refine Kd.C_drew ?_))); (case side2 => exact (Kd.R_reads' HO414.out).2.1); (case side3 => repeat (first | exact (Kd.R_reads' HO427.out).2.2 | (with_reducible refine Kd.C_alloc ?_ _) | (with_reducible refine Kd.C_drewN ?_ _) | (with_reducible refine Kd.C_drew ?_))); (case side4 => exact (Kd.R_reads' HO427.out).2.1); rintro e w53 ⟨rfl, hb⟩; refine ⟨_, rfl, ?_⟩; have n0_ := zK (Kd.R_below (by (with_reducible repeat (first | apply zR | apply zV | apply zW)); exact HO400.out) hb); have n1_ := zK (Kd.R_below (by (with_reducible repeat (first | apply zR | apply zV | apply zW)); exact HO403.out) hb); have n2_ := zK (Kd.R_below (by (with_reducible repeat (first | apply zR | apply zV | apply zW)); exact HO407.out) hb); have n3_ := zK (Kd.R_below (by (with_reducible repeat (first | apply zR | apply zV | apply zW)); exact HO411.out) hb); have n4_ := zK (Kd.R_below (by (with_reducible repeat (first | apply zR | apply zV | apply zW)); exact HO414.out) hb); have n5_ := zK (Kd.R_below (by (with_reducible repeat (first | apply zR | apply zV | apply zW)); exact HO418.out) hb); have n6_ := zK (Kd.R_below (by (with_reducible repeat (first | apply zR | apply zV | apply zW)); exact HO423.out) hb); have n7_ := zK (Kd.R_below (by (with_reducible repeat (first | apply zR | apply zV | apply zW)); exact HO427.out) hb); have n8_ := zK (blk_below (g := gb408) (o := .cells #[.int .i64 t404, .slice Ao36 t405.length co36] 26 (0, 0)) (by (with_reducible repeat (first | refine zM ?_ _ | refine zP ?_ | refine zQ ?_ _)); exact BK408.out) hb); have n9_ := zK (blk_below (g := gb419) (o := .cells #[.int .i64 t415, .slice Ao45 t416.length co45] 26 (0, 0)) (by (with_reducible repeat (first | refine zM ?_ _ | refine zP ?_ | refine zQ ?_ _)); exact BK419.out) hb); have n10_ := zK (below_step (by repeat (first | (with_reducible first | exact HB.out | apply zA | apply zN | apply zD | refine below_set ?_ GE408.out | refine below_set ?_ GE419.out) | exact HB.out)) hb); clear HO400; clear HO403; clear HO407; clear HO411; clear HO414; clear HO418; clear HO423; clear HO427; clear BK408; clear BK419; clear HB; have HO400 := n0_; have HO403 := n1_; have HO407 := n2_; have HO411 := n3_; have HO414 := n4_; have HO418 := n5_; have HO423 := n6_; have HO427 := n7_; have BK408 := n8_; have BK419 := n9_; have HB := n10_; clear n0_ n1_ n2_ n3_ n4_ n5_ n6_ n7_ n8_ n9_ n10_; (try clear hb); (try clear hb2); (try clear hk); (try clear hi)) | ((with_reducible refine gate_callee (f := 15) rfl ?_); refine goesL_ (some 52) rfl rfl Tryz.func15 (by kernel_rfl) rfl #[.slice Ao39 t409.length co39, .int .i64 1] rfl (by (try simp only [List.map_toArray, List.map_cons, List.map_nil]); first | done | rfl | (simp only [List.length_drop, List.length_take]; rfl)) ?_; (with_reducible refine (laws_markFileS.calls k (fun k_ => some k_ = (.slice Ao39 t409.length co39 : Value).ownBlock) (.slice Ao39 t409.length co39) t409 1 t429 t430 w _ ?side1 ?side2 A24.out).mono ?_); (case side1 => repeat (first | (with_reducible first | exact HB.out | apply zA | apply zN | apply zD | refine below_set ?_ GE408.out | refine below_set ?_ GE419.out) | exact HB.out)); (case side2 => exact Kd.R_tight rfl HO411.out); rintro e w54 ⟨rfl, hy0, hb, hkp⟩; refine ⟨_, rfl, ?_⟩; have n0_ := zK (Kd.R_mono (ok' := fun k_ => some k_ ≠ (.slice Ao32 t401.length co32 : Value).ownBlock ∧ some k_ ≠ (.slice Ao39 t409.length co39 : Value).ownBlock ∧ some k_ ≠ (.slice Ao40 t412.length co40 : Value).ownBlock ∧ some k_ ≠ (.slice Ao49 t421.length co49 : Value).ownBlock ∧ some k_ ≠ (.slice Ao52 t425.length co52 : Value).ownBlock) (Kd.R_keptB (HO400.out) hkp (fun k_ hk_ hs_ => (hk_.1.1.1.2) hs_)) (fun k_ hk_ => ⟨hk_.1.1.1.1.1.2, hk_.1.1.1.1.2, hk_.1.1.1.2, hk_.1.1.2, hk_.1.2⟩)); have n1_ := zK (Kd.R_mono (ok' := fun k_ => some k_ ≠ (.slice Ao31 t398.length co31 : Value).ownBlock ∧ some k_ ≠ (.slice Ao39 t409.length co39 : Value).ownBlock ∧ some k_ ≠ (.slice Ao40 t412.length co40 : Value).ownBlock ∧ some k_ ≠ (.slice Ao49 t421.length co49 : Value).ownBlock ∧ some k_ ≠ (.slice Ao52 t425.length co52 : Value).ownBlock) (Kd.R_keptB (HO403.out) hkp (fun k_ hk_ hs_ => (hk_.1.1.1.2) hs_)) (fun k_ hk_ => ⟨hk_.1.1.1.1.1.2, hk_.1.1.1.1.2, hk_.1.1.1.2, hk_.1.1.2, hk_.1.2⟩)); have n2_ := zK (Kd.R_mono (ok' := fun k_ => some k_ ≠ (.slice Ao45 t416.length co45 : Value).ownBlock) (Kd.R_keptB ((Kd.R_apart' HO407.out (Kd.R_typed HO411.out) (by decide))) hkp (fun k_ hk_ hs_ => (hk_.2) hs_)) (fun k_ hk_ => hk_.1.1.2)); have n3_ := zK (blk_kept (by (with_reducible repeat (first | refine zM ?_ _ | refine zP ?_ | refine zQ ?_ _)); exact BK408.out) hkp (fun hs_ => (fun e_ => (Kd.R_ne HO411.out BK408.out (by decide)) e_) hs_)); have n4_ := zK (Kd.R_reok rfl hy0 (fun k_ e_ => HO411.out.1 k_ e_)); have n5_ := zK (Kd.R_mono (ok' := fun k_ => some k_ ≠ (.slice Ao31 t398.length co31 : Value).ownBlock ∧ some k_ ≠ (.slice Ao32 t401.length co32 : Value).ownBlock ∧ some k_ ≠ (.slice Ao39 t409.length co39 : Value).ownBlock ∧ some k_ ≠ (.slice Ao49 t421.length co49 : Value).ownBlock ∧ some k_ ≠ (.slice Ao52 t425.length co52 : Value).ownBlock) (Kd.R_keptB (HO414.out) hkp (fun k_ hk_ hs_ => (hk_.1.1.2) hs_)) (fun k_ hk_ => ⟨hk_.1.1.1.1.1.2, hk_.1.1.1.1.2, hk_.1.1.1.2, hk_.1.1.2, hk_.1.2⟩)); have n6_ := zK (Kd.R_mono (ok' := fun k_ => some k_ ≠ (.slice Ao36 t405.length co36 : Value).ownBlock) (Kd.R_keptB ((Kd.R_apart' HO418.out (Kd.R_typed HO411.out) (by decide))) hkp (fun k_ hk_ hs_ => (hk_.2) hs_)) (fun k_ hk_ => hk_.1.1.2)); have n7_ := zK (blk_kept (by (with_reducible repeat (first | refine zM ?_ _ | refine zP ?_ | refine zQ ?_ _)); exact BK419.out) hkp (fun hs_ => (fun e_ => (Kd.R_ne HO411.out BK419.out (by decide)) e_) hs_)); have n8_ := zK (Kd.R_mono (ok' := fun k_ => some k_ ≠ (.slice Ao31 t398.length co31 : Value).ownBlock ∧ some k_ ≠ (.slice Ao32 t401.length co32 : Value).ownBlock ∧ some k_ ≠ (.slice Ao39 t409.length co39 : Value).ownBlock ∧ some k_ ≠ (.slice Ao40 t412.length co40 : Value).ownBlock ∧ some k_ ≠ (.slice Ao52 t425.length co52 : Value).ownBlock) (Kd.R_keptB (HO423.out) hkp (fun k_ hk_ hs_ => (hk_.1.1.2) hs_)) (fun k_ hk_ => ⟨hk_.1.1.1.1.1.2, hk_.1.1.1.1.2, hk_.1.1.1.2, hk_.1.1.2, hk_.1.2⟩)); have n9_ := zK (Kd.R_mono (ok' := fun k_ => some k_ ≠ (.slice Ao31 t398.length co31 : Value).ownBlock ∧ some k_ ≠ (.slice Ao32 t401.length co32 : Value).ownBlock ∧ some k_ ≠ (.slice Ao39 t409.length co39 : Value).ownBlock ∧ some k_ ≠ (.slice Ao40 t412.length co40 : Value).ownBlock ∧ some k_ ≠ (.slice Ao49 t421.length co49 : Value).ownBlock) (Kd.R_keptB (HO427.out) hkp (fun k_ hk_ hs_ => (hk_.1.1.2) hs_)) (fun k_ hk_ => ⟨hk_.1.1.1.1.1.2, hk_.1.1.1.1.2, hk_.1.1.1.2, hk_.1.1.2, hk_.1.2⟩)); have n10_ := zK (hb); clear HO400; clear HO403; clear HO407; clear BK408; clear HO411; clear HO414; clear HO418; clear BK419; clear HO423; clear HO427; clear HB; have HO400 := n0_; have HO403 := n1_; have HO407 := n2_; have BK408 := n3_; have HO411 := n4_; have HO414 := n5_; have HO418 := n6_; have BK419 := n7_; have HO423 := n8_; have HO427 := n9_; have HB := n10_; clear n0_ n1_ n2_ n3_ n4_ n5_ n6_ n7_ n8_ n9_ n10_; (try clear hb); (try clear hkp); (try clear hy0)) | ((with_reducible refine gate_callee (f := 15) rfl ?_); refine goesL_ (some 55) rfl rfl Tryz.func15 (by kernel_rfl) rfl #[.slice Ao40 t412.length co40, .int .i64 t429] rfl (by (try simp only [List.map_toArray, List.map_cons, List.map_nil]); first | done | rfl | (simp only [List.length_drop, List.length_take]; rfl)) ?_; (with_reducible refine (laws_markFileS.calls k (fun k_ => some k_ = (.slice Ao40 t412.length co40 : Value).ownBlock) (.slice Ao40 t412.length co40) t412 t429 t431 t432 w _ ?side1 ?side2 A25.out).mono ?_); (case side1 => repeat (first | (with_reducible first | exact HB.out | apply zA | apply zN | apply zD | refine below_set ?_ GE408.out | refine below_set ?_ GE419.out) | exact HB.out)); (case side2 => exact Kd.R_tight rfl HO414.out); rintro e w55 ⟨rfl, hy0, hb, hkp⟩; refine ⟨_, rfl, ?_⟩; have n0_ := zK (Kd.R_mono (ok' := fun k_ => some k_ ≠ (.slice Ao32 t401.length co32 : Value).ownBlock ∧ some k_ ≠ (.slice Ao39 t409.length co39 : Value).ownBlock ∧ some k_ ≠ (.slice Ao40 t412.length co40 : Value).ownBlock ∧ some k_ ≠ (.slice Ao49 t421.length co49 : Value).ownBlock ∧ some k_ ≠ (.slice Ao52 t425.length co52 : Value).ownBlock) (Kd.R_keptB (HO400.out) hkp (fun k_ hk_ hs_ => (hk_.2.2.1) hs_)) (fun k_ hk_ => ⟨hk_.1.1, hk_.1.2.1, hk_.1.2.2.1, hk_.1.2.2.2.1, hk_.1.2.2.2.2⟩)); have n1_ := zK (Kd.R_mono (ok' := fun k_ => some k_ ≠ (.slice Ao31 t398.length co31 : Value).ownBlock ∧ some k_ ≠ (.slice Ao39 t409.length co39 : Value).ownBlock ∧ some k_ ≠ (.slice Ao40 t412.length co40 : Value).ownBlock ∧ some k_ ≠ (.slice Ao49 t421.length co49 : Value).ownBlock ∧ some k_ ≠ (.slice Ao52 t425.length co52 : Value).ownBlock) (Kd.R_keptB (HO403.out) hkp (fun k_ hk_ hs_ => (hk_.2.2.1) hs_)) (fun k_ hk_ => ⟨hk_.1.1, hk_.1.2.1, hk_.1.2.2.1, hk_.1.2.2.2.1, hk_.1.2.2.2.2⟩)); have n2_ := zK (Kd.R_mono (ok' := fun k_ => some k_ ≠ (.slice Ao45 t416.length co45 : Value).ownBlock) (Kd.R_keptB ((Kd.R_apart' HO407.out (Kd.R_typed HO414.out) (by decide))) hkp (fun k_ hk_ hs_ => (hk_.2) hs_)) (fun k_ hk_ => hk_.1.1)); have n3_ := zK (blk_kept (by (with_reducible repeat (first | refine zM ?_ _ | refine zP ?_ | refine zQ ?_ _)); exact BK408.out) hkp (fun hs_ => (fun e_ => (Kd.R_ne HO414.out BK408.out (by decide)) e_) hs_)); have n4_ := zK (Kd.R_mono (ok' := fun k_ => some k_ ≠ (.slice Ao31 t398.length co31 : Value).ownBlock ∧ some k_ ≠ (.slice Ao32 t401.length co32 : Value).ownBlock ∧ some k_ ≠ (.slice Ao40 t412.length co40 : Value).ownBlock ∧ some k_ ≠ (.slice Ao49 t421.length co49 : Value).ownBlock ∧ some k_ ≠ (.slice Ao52 t425.length co52 : Value).ownBlock) (Kd.R_keptB (HO411.out) hkp (fun k_ hk_ hs_ => (hk_.1.1.2) hs_)) (fun k_ hk_ => ⟨hk_.1.1.1.1.1.2, hk_.1.1.1.1.2, hk_.1.1.1.2, hk_.1.1.2, hk_.1.2⟩)); have n5_ := zK (Kd.R_reok rfl hy0 (fun k_ e_ => HO414.out.1 k_ e_)); have n6_ := zK (Kd.R_mono (ok' := fun k_ => some k_ ≠ (.slice Ao36 t405.length co36 : Value).ownBlock) (Kd.R_keptB ((Kd.R_apart' HO418.out (Kd.R_typed HO414.out) (by decide))) hkp (fun k_ hk_ hs_ => (hk_.2) hs_)) (fun k_ hk_ => hk_.1.1)); have n7_ := zK (blk_kept (by (with_reducible repeat (first | refine zM ?_ _ | refine zP ?_ | refine zQ ?_ _)); exact BK419.out) hkp (fun hs_ => (fun e_ => (Kd.R_ne HO414.out BK419.out (by decide)) e_) hs_)); have n8_ := zK (Kd.R_mono (ok' := fun k_ => some k_ ≠ (.slice Ao31 t398.length co31 : Value).ownBlock ∧ some k_ ≠ (.slice Ao32 t401.length co32 : Value).ownBlock ∧ some k_ ≠ (.slice Ao39 t409.length co39 : Value).ownBlock ∧ some k_ ≠ (.slice Ao40 t412.length co40 : Value).ownBlock ∧ some k_ ≠ (.slice Ao52 t425.length co52 : Value).ownBlock) (Kd.R_keptB (HO423.out) hkp (fun k_ hk_ hs_ => (hk_.2.2.2.1) hs_)) (fun k_ hk_ => ⟨hk_.1.1, hk_.1.2.1, hk_.1.2.2.1, hk_.1.2.2.2.1, hk_.1.2.2.2.2⟩)); have n9_ := zK (Kd.R_mono (ok' := fun k_ => some k_ ≠ (.slice Ao31 t398.length co31 : Value).ownBlock ∧ some k_ ≠ (.slice Ao32 t401.length co32 : Value).ownBlock ∧ some k_ ≠ (.slice Ao39 t409.length co39 : Value).ownBlock ∧ some k_ ≠ (.slice Ao40 t412.length co40 : Value).ownBlock ∧ some k_ ≠ (.slice Ao49 t421.length co49 : Value).ownBlock) (Kd.R_keptB (HO427.out) hkp (fun k_ hk_ hs_ => (hk_.2.2.2.1) hs_)) (fun k_ hk_ => ⟨hk_.1.1, hk_.1.2.1, hk_.1.2.2.1, hk_.1.2.2.2.1, hk_.1.2.2.2.2⟩)); have n10_ := zK (hb); clear HO400; clear HO403; clear HO407; clear BK408; clear HO411; clear HO414; clear HO418; clear BK419; clear HO423; clear HO427; clear HB; have HO400 := n0_; have HO403 := n1_; have HO407 := n2_; have BK408 := n3_; have HO411 := n4_; have HO414 := n5_; have HO418 := n6_; have BK419 := n7_; have HO423 := n8_; have HO427 := n9_; have HB := n10_; clear n0_ n1_ n2_ n3_ n4_ n5_ n6_ n7_ n8_ n9_ n10_; (try clear hb); (try clear hkp); (try clear hy0)))
      (try simp only [Act.put, zS, zT, zU])
      go_cut [63] (fun v63 wc => ∃ (kq : Nat) (x63_25 : Bool), v63 = .bool x63_25 ∧ Aside0 (laws_FnExactDiffFiles.j0 kq l0 l1 x63_25 t404 t405 t415 t416 = some r) ∧ Aside0 (kq ≤ k) ∧ Aside0 (Kd.R k77 77 wc w.heap.size (fun k_ => some k_ ≠ ((.slice Ao45 t416.length co45) : Value).ownBlock) (.slice Ao36 t405.length co36) t405) ∧ Aside0 (Kd.R k77 77 wc w.heap.size (fun k_ => some k_ ≠ ((.slice Ao36 t405.length co36) : Value).ownBlock) (.slice Ao45 t416.length co45) t416) ∧ Aside0 (wc.heap[gb408]? = some (.cells #[.int .i64 t404, (.slice Ao36 t405.length co36)] 26 (0, 0))) ∧ Aside0 (wc.heap[gb419]? = some (.cells #[.int .i64 t415, (.slice Ao45 t416.length co45)] 26 (0, 0))) ∧ Aside0 (Below w.heap.size w wc))
      case first =>
       have H := HC26.out
       clear HC26
       by_cases c56 : t431 < 0
       ·
        rw [if_pos c56] at H
        have c56b0 : decide (t431 < 0) = true := decide_eq_true c56
        clear c56
        (first | rw [c56b0] | (simp only [i64_w, i32_w]; rw [c56b0]) | skip)
        have H' := zK H
        clear H
        go_wp2
        go_meet
        case rel => exact ⟨_, (true), (by first | rfl | (simp; done) | (simp [*]; done)), H', ⟨by first | omega | exact Nat.le_refl _⟩, ⟨by (with_reducible repeat (first | apply zR | apply zV | apply zW)); exact HO407.out⟩, ⟨by (with_reducible repeat (first | apply zR | apply zV | apply zW)); exact HO418.out⟩, ⟨by (with_reducible repeat (first | refine zM ?_ _ | refine zP ?_ | refine zQ ?_ _)); exact BK408.out⟩, ⟨by (with_reducible repeat (first | refine zM ?_ _ | refine zP ?_ | refine zQ ?_ _)); exact BK419.out⟩, ⟨by repeat (first | (with_reducible first | exact HB.out | apply zA | apply zN | apply zD | refine below_set ?_ GE408.out | refine below_set ?_ GE419.out) | exact HB.out)⟩⟩
       ·
        rw [if_neg c56] at H
        have c56b0 : decide (t431 < 0) = false := decide_eq_false c56
        clear c56
        (first | rw [c56b0] | (simp only [i64_w, i32_w]; rw [c56b0]) | skip)
        replace H := Option.bind_eq_some_iff.mp H
        obtain ⟨t433, A570, H⟩ := H
        replace H : (laws_FnExactDiffFiles.j0 k l0 l1 (!t433) t404 t405 t415 t416) = some r := H
        have A57 := zK A570
        clear A570
        have H' := zK H
        clear H
        have hnb58 := NB419_408.out
        have hnc58 := NB408_419.out
        have hcz59_0 : w55.cell? ⟨gb419, 0, none⟩ = some (.int .i64 t415) := (blk_cell BK419.out 0).trans rfl
        have hcz59_1 : w55.cell? ⟨gb419, 1, none⟩ = some (.slice Ao45 t416.length co45) := (blk_cell BK419.out 1).trans rfl
        have hfz59_0 := blk_frozen BK419.out 0
        have hfz59_1 := blk_frozen BK419.out 1
        have hcz60_0 : w55.cell? ⟨gb408, 0, none⟩ = some (.int .i64 t404) := (blk_cell BK408.out 0).trans rfl
        have hcz60_1 : w55.cell? ⟨gb408, 1, none⟩ = some (.slice Ao36 t405.length co36) := (blk_cell BK408.out 1).trans rfl
        have hfz60_0 := blk_frozen BK408.out 0
        have hfz60_1 := blk_frozen BK408.out 1
        go_wp2_with (first | (go_at_call 13; (with_reducible refine (laws_eqDeltasResult.calls k t415 _ _ t416 t404 _ _ t405 t433 _ ?side1 ?side2 ?side3 ?side4 A57.out).mono ?_); (case side1 => repeat (first | exact (Kd.R_reads' HO418.out).2.2 | (with_reducible refine Kd.C_alloc ?_ _) | (with_reducible refine Kd.C_drewN ?_ _) | (with_reducible refine Kd.C_drew ?_))); (case side2 => exact (Kd.R_reads' HO418.out).2.1); (case side3 => repeat (first | exact (Kd.R_reads' HO407.out).2.2 | (with_reducible refine Kd.C_alloc ?_ _) | (with_reducible refine Kd.C_drewN ?_ _) | (with_reducible refine Kd.C_drew ?_))); (case side4 => exact (Kd.R_reads' HO407.out).2.1); rintro e w61 ⟨rfl, hb⟩; have n0_ := zK (Kd.R_below (by (with_reducible repeat (first | apply zR | apply zV | apply zW)); exact HO400.out) hb); have n1_ := zK (Kd.R_below (by (with_reducible repeat (first | apply zR | apply zV | apply zW)); exact HO403.out) hb); have n2_ := zK (Kd.R_below (by (with_reducible repeat (first | apply zR | apply zV | apply zW)); exact HO407.out) hb); have n3_ := zK (Kd.R_below (by (with_reducible repeat (first | apply zR | apply zV | apply zW)); exact HO411.out) hb); have n4_ := zK (Kd.R_below (by (with_reducible repeat (first | apply zR | apply zV | apply zW)); exact HO414.out) hb); have n5_ := zK (Kd.R_below (by (with_reducible repeat (first | apply zR | apply zV | apply zW)); exact HO418.out) hb); have n6_ := zK (Kd.R_below (by (with_reducible repeat (first | apply zR | apply zV | apply zW)); exact HO423.out) hb); have n7_ := zK (Kd.R_below (by (with_reducible repeat (first | apply zR | apply zV | apply zW)); exact HO427.out) hb); have n8_ := zK (blk_below (g := gb408) (o := .cells #[.int .i64 t404, .slice Ao36 t405.length co36] 26 (0, 0)) (by (with_reducible repeat (first | refine zM ?_ _ | refine zP ?_ | refine zQ ?_ _)); exact BK408.out) hb); have n9_ := zK (blk_below (g := gb419) (o := .cells #[.int .i64 t415, .slice Ao45 t416.length co45] 26 (0, 0)) (by (with_reducible repeat (first | refine zM ?_ _ | refine zP ?_ | refine zQ ?_ _)); exact BK419.out) hb); have n10_ := zK (below_step (by repeat (first | (with_reducible first | exact HB.out | apply zA | apply zN | apply zD | refine below_set ?_ GE408.out | refine below_set ?_ GE419.out) | exact HB.out)) hb); clear HO400; clear HO403; clear HO407; clear HO411; clear HO414; clear HO418; clear HO423; clear HO427; clear BK408; clear BK419; clear HB; have HO400 := n0_; have HO403 := n1_; have HO407 := n2_; have HO411 := n3_; have HO414 := n4_; have HO418 := n5_; have HO423 := n6_; have HO427 := n7_; have BK408 := n8_; have BK419 := n9_; have HB := n10_; clear n0_ n1_ n2_ n3_ n4_ n5_ n6_ n7_ n8_ n9_ n10_; (try clear hb); (try clear hb2); (try clear hk); (try clear hi)))
        go_meet
        case rel => exact ⟨_, (!t433), (by first | rfl | (simp; done) | (simp [*]; done)), H', ⟨by first | omega | exact Nat.le_refl _⟩, ⟨by (with_reducible repeat (first | apply zR | apply zV | apply zW)); exact HO407.out⟩, ⟨by (with_reducible repeat (first | apply zR | apply zV | apply zW)); exact HO418.out⟩, ⟨by (with_reducible repeat (first | refine zM ?_ _ | refine zP ?_ | refine zQ ?_ _)); exact BK408.out⟩, ⟨by (with_reducible repeat (first | refine zM ?_ _ | refine zP ?_ | refine zQ ?_ _)); exact BK419.out⟩, ⟨by repeat (first | (with_reducible first | exact HB.out | apply zA | apply zN | apply zD | refine below_set ?_ GE408.out | refine below_set ?_ GE419.out) | exact HB.out)⟩⟩
      case rest =>
       clear HC26
       try clear c1
       try clear c2
       try clear p2
       try clear c3
       try clear c4
       try clear c4b0
       try clear c5
       try clear c7
       try clear c7b0
       try clear c9
       try clear c10
       try clear c11
       try clear c12
       try clear c13
       try clear c14
       try clear c15
       try clear c17
       try clear c20
       try clear c23
       try clear c43
       try clear c56
       try clear c56b0
       try clear c58
       try clear hcz35_0
       try clear hcz35_1
       try clear hcz44_0
       try clear hcz44_1
       try clear hcz46_0
       try clear hcz46_1
       try clear hcz59_0
       try clear hcz59_1
       try clear hcz60_0
       try clear hcz60_1
       try clear hfz35_0
       try clear hfz35_1
       try clear hfz44_0
       try clear hfz44_1
       try clear hfz46_0
       try clear hfz46_1
       try clear hfz59_0
       try clear hfz59_1
       try clear hfz60_0
       try clear hfz60_1
       obtain ⟨kq, x63_25, rfl, HA, HJ25, HO_409001, HO_420001, BK408, BK419, HB⟩ := hcut
       cases kq with
       | zero => exact absurd HA.out (by simp [laws_FnExactDiffFiles.j0])
       | succ kj25 =>
        have H := HA.out
        clear HA
        simp only [laws_FnExactDiffFiles.j0] at H
        by_cases c62 : x63_25 = true
        ·
         subst c62
         have H1 : (some false) = some r := by rw [if_pos rfl] at H; exact H
         clear H
         have H := H1
         clear H1
         exact absurd ((Option.some.inj H).trans hT_) (by decide)
        ·
         replace c62 := Bool.eq_false_iff.mpr c62
         subst c62
         have H1 : ((laws_markDeltasResult.f t415 t416 1).bind fun bt434 => ((laws_heldDeltasResult.f t415 bt434.2 1).bind fun t436 => (if t436 < 0 then (some false) else (if t436 = bt434.1 then ((laws_toFileS.f kj25 l0).bind fun t437 => ((laws_toFileS.f kj25 l1).bind fun t440 => ((impl_DiffFiles.f kj25 t437 t440).bind fun bt443 => ((laws_eqDeltasResult.f kj25 bt443.1 bt443.2 t404 t405).bind fun t448 => (if t448 = true then ((laws_heldDeltasResult.f t415 bt434.2 1).bind fun t449 => (if t449 < 0 then (some false) else (if t449 = bt434.1 then (some true) else (some false)))) else (some false)))))) else (some false))))) = some r := by rw [if_neg (show ¬ (false = true) by decide)] at H; exact H
         clear H
         have H := H1
         clear H1
         replace H := Option.bind_eq_some_iff.mp H
         obtain ⟨⟨t434, t435⟩, A630, H⟩ := H
         replace H : ((laws_heldDeltasResult.f t415 t435 1).bind fun t436 => (if t436 < 0 then (some false) else (if t436 = t434 then ((laws_toFileS.f kj25 l0).bind fun t437 => ((laws_toFileS.f kj25 l1).bind fun t440 => ((impl_DiffFiles.f kj25 t437 t440).bind fun bt443 => ((laws_eqDeltasResult.f kj25 bt443.1 bt443.2 t404 t405).bind fun t448 => (if t448 = true then ((laws_heldDeltasResult.f t415 t435 1).bind fun t449 => (if t449 < 0 then (some false) else (if t449 = t434 then (some true) else (some false)))) else (some false)))))) else (some false)))) = some r := H
         have A63 := zK A630
         clear A630
         replace H := Option.bind_eq_some_iff.mp H
         obtain ⟨t436, A640, H⟩ := H
         replace H : (if t436 < 0 then (some false) else (if t436 = t434 then ((laws_toFileS.f kj25 l0).bind fun t437 => ((laws_toFileS.f kj25 l1).bind fun t440 => ((impl_DiffFiles.f kj25 t437 t440).bind fun bt443 => ((laws_eqDeltasResult.f kj25 bt443.1 bt443.2 t404 t405).bind fun t448 => (if t448 = true then ((laws_heldDeltasResult.f t415 t435 1).bind fun t449 => (if t449 < 0 then (some false) else (if t449 = t434 then (some true) else (some false)))) else (some false)))))) else (some false))) = some r := H
         have A64 := zK A640
         clear A640
         by_cases c65 : t436 < 0
         ·
          rw [if_pos c65] at H
          have c65b0 : decide (t436 < 0) = true := decide_eq_true c65
          clear c65
          exact absurd ((Option.some.inj H).trans hT_) (by decide)
         ·
          rw [if_neg c65] at H
          have c65b0 : decide (t436 < 0) = false := decide_eq_false c65
          clear c65
          by_cases c71 : t436 = t434
          ·
           rw [if_pos c71] at H
           have c71b0 : (t436 == t434) = true := beq_iff_eq.mpr c71
           have c71b1 : (t436 != t434) = false := bne_eq_false_iff_eq.mpr c71
           clear c71
           replace H := Option.bind_eq_some_iff.mp H
           obtain ⟨t437, A720, H⟩ := H
           replace H : ((laws_toFileS.f kj25 l1).bind fun t440 => ((impl_DiffFiles.f kj25 t437 t440).bind fun bt443 => ((laws_eqDeltasResult.f kj25 bt443.1 bt443.2 t404 t405).bind fun t448 => (if t448 = true then ((laws_heldDeltasResult.f t415 t435 1).bind fun t449 => (if t449 < 0 then (some false) else (if t449 = t434 then (some true) else (some false)))) else (some false))))) = some r := H
           have A72 := zK A720
           clear A720
           replace H := Option.bind_eq_some_iff.mp H
           obtain ⟨t440, A730, H⟩ := H
           replace H : ((impl_DiffFiles.f kj25 t437 t440).bind fun bt443 => ((laws_eqDeltasResult.f kj25 bt443.1 bt443.2 t404 t405).bind fun t448 => (if t448 = true then ((laws_heldDeltasResult.f t415 t435 1).bind fun t449 => (if t449 < 0 then (some false) else (if t449 = t434 then (some true) else (some false)))) else (some false)))) = some r := H
           have A73 := zK A730
           clear A730
           replace H := Option.bind_eq_some_iff.mp H
           obtain ⟨⟨t443, t444⟩, A740, H⟩ := H
           replace H : ((laws_eqDeltasResult.f kj25 t443 t444 t404 t405).bind fun t448 => (if t448 = true then ((laws_heldDeltasResult.f t415 t435 1).bind fun t449 => (if t449 < 0 then (some false) else (if t449 = t434 then (some true) else (some false)))) else (some false))) = some r := H
           have A74 := zK A740
           clear A740
           replace H := Option.bind_eq_some_iff.mp H
           obtain ⟨t448, A750, H⟩ := H
           replace H : (if t448 = true then ((laws_heldDeltasResult.f t415 t435 1).bind fun t449 => (if t449 < 0 then (some false) else (if t449 = t434 then (some true) else (some false)))) else (some false)) = some r := H
           have A75 := zK A750
           clear A750
           by_cases c76 : t448 = true
           ·
            subst c76
            have H1 : ((laws_heldDeltasResult.f t415 t435 1).bind fun t449 => (if t449 < 0 then (some false) else (if t449 = t434 then (some true) else (some false)))) = some r := by rw [if_pos rfl] at H; exact H
            clear H
            have H := H1
            clear H1
            replace H := Option.bind_eq_some_iff.mp H
            obtain ⟨t449, A770, H⟩ := H
            replace H : (if t449 < 0 then (some false) else (if t449 = t434 then (some true) else (some false))) = some r := H
            have A77 := zK A770
            clear A770
            by_cases c78 : t449 < 0
            ·
             rw [if_pos c78] at H
             have c78b0 : decide (t449 < 0) = true := decide_eq_true c78
             clear c78
             exact absurd ((Option.some.inj H).trans hT_) (by decide)
            ·
             rw [if_neg c78] at H
             have c78b0 : decide (t449 < 0) = false := decide_eq_false c78
             clear c78
             by_cases c98 : t449 = t434
             ·
              rw [if_pos c98] at H
              have c98b0 : (t449 == t434) = true := beq_iff_eq.mpr c98
              have c98b1 : (t449 != t434) = false := bne_eq_false_iff_eq.mpr c98
              clear c98
              obtain rfl := Option.some.inj H
              have hnb99 := NB419_408.out
              have hnc99 := NB408_419.out
              have hcz100_0 : wc.cell? ⟨gb419, 0, none⟩ = some (.int .i64 t415) := (blk_cell BK419.out 0).trans rfl
              have hcz100_1 : wc.cell? ⟨gb419, 1, none⟩ = some (.slice Ao45 t416.length co45) := (blk_cell BK419.out 1).trans rfl
              have hfz100_0 := blk_frozen BK419.out 0
              have hfz100_1 := blk_frozen BK419.out 1
              go_wp2_with (first | ((with_reducible refine gate_callee (f := 16) rfl ?_); refine goesL_ (some 66) rfl rfl Tryz.func16 (by kernel_rfl) rfl #[.agg #[.int .i64 t415, .slice Ao45 t416.length co45], .int .i64 1] rfl (by (try simp only [List.map_toArray, List.map_cons, List.map_nil]); first | done | rfl | (simp only [List.length_drop, List.length_take]; rfl)) ?_; (with_reducible refine (laws_markDeltasResult.calls t415 (fun k_ => some k_ = (.slice Ao45 t416.length co45 : Value).ownBlock) (.slice Ao45 t416.length co45) t416 1 t434 t435 w _ ?side1 ?side2 A63.out).mono ?_); (case side1 => repeat (first | (with_reducible first | exact HB.out | apply zA | apply zN | apply zD | refine below_set ?_ GE408.out | refine below_set ?_ GE419.out) | exact HB.out)); (case side2 => exact Kd.R_tight rfl HO_420001.out); rintro e w101 ⟨rfl, hy0, hb, hkp⟩; refine ⟨_, rfl, ?_⟩; have n0_ := zK (Kd.R_mono (ok' := fun k_ => some k_ ≠ (.slice Ao45 t416.length co45 : Value).ownBlock) (Kd.R_keptB (HO_409001.out) hkp (fun k_ hk_ hs_ => (hk_) hs_)) (fun k_ hk_ => hk_.1)); have n1_ := zK (Kd.R_reok rfl hy0 (fun k_ e_ => HO_420001.out.1 k_ e_)); have n2_ := zK (blk_kept (by (with_reducible repeat (first | refine zM ?_ _ | refine zP ?_ | refine zQ ?_ _)); exact BK408.out) hkp (fun hs_ => (fun e_ => (Kd.R_ne HO_420001.out BK408.out (by decide)) e_) hs_)); have n3_ := zK (blk_kept (by (with_reducible repeat (first | refine zM ?_ _ | refine zP ?_ | refine zQ ?_ _)); exact BK419.out) hkp (fun hs_ => (fun e_ => (Kd.R_ne HO_420001.out BK419.out (by decide)) e_) hs_)); have n4_ := zK (hb); clear HO_409001; clear HO_420001; clear BK408; clear BK419; clear HB; have HO_409001 := n0_; have HO_420001 := n1_; have BK408 := n2_; have BK419 := n3_; have HB := n4_; clear n0_ n1_ n2_ n3_ n4_; (try clear hb); (try clear hkp); (try clear hy0); have hcz102_0 : w101.cell? ⟨gb419, 0, none⟩ = some (.int .i64 t415) := (blk_cell BK419.out 0).trans rfl; have hcz102_1 : w101.cell? ⟨gb419, 1, none⟩ = some (.slice Ao45 t416.length co45) := (blk_cell BK419.out 1).trans rfl; have hfz102_0 := blk_frozen BK419.out 0; have hfz102_1 := blk_frozen BK419.out 1) | ((with_reducible refine gate_callee (f := 17) rfl ?_); refine goesL_ (some 69) rfl rfl Tryz.func17 (by kernel_rfl) rfl #[.agg #[.int .i64 t415, .slice Ao45 t435.length co45], .int .i64 1] rfl (by (try simp only [List.map_toArray, List.map_cons, List.map_nil]); first | done | (rw [show t435.length = t416.length from (Kd.R_reads' HO_420001.out).1.symm] <;> rfl) | rfl | (simp only [List.length_drop, List.length_take]; rfl)) ?_; (with_reducible refine (laws_heldDeltasResult.calls t415 _ _ t435 1 t436 _ ?side1 ?side2 A64.out).mono ?_); (case side1 => repeat (first | exact (Kd.R_reads' HO_420001.out).2.2 | (with_reducible refine Kd.C_alloc ?_ _) | (with_reducible refine Kd.C_drewN ?_ _) | (with_reducible refine Kd.C_drew ?_))); (case side2 => rw [show t435.length = t416.length from (Kd.R_reads' HO_420001.out).1.symm]; exact (Kd.R_reads' HO_420001.out).2.1); rintro e w103 ⟨rfl, hb⟩; refine ⟨_, rfl, ?_⟩; have n0_ := zK (Kd.R_below (by (with_reducible repeat (first | apply zR | apply zV | apply zW)); exact HO_409001.out) hb); have n1_ := zK (Kd.R_below (by (with_reducible repeat (first | apply zR | apply zV | apply zW)); exact HO_420001.out) hb); have n2_ := zK (blk_below (g := gb408) (o := .cells #[.int .i64 t404, .slice Ao36 t405.length co36] 26 (0, 0)) (by (with_reducible repeat (first | refine zM ?_ _ | refine zP ?_ | refine zQ ?_ _)); exact BK408.out) hb); have n3_ := zK (blk_below (g := gb419) (o := .cells #[.int .i64 t415, .slice Ao45 t416.length co45] 26 (0, 0)) (by (with_reducible repeat (first | refine zM ?_ _ | refine zP ?_ | refine zQ ?_ _)); exact BK419.out) hb); have n4_ := zK (below_step (by repeat (first | (with_reducible first | exact HB.out | apply zA | apply zN | apply zD | refine below_set ?_ GE408.out | refine below_set ?_ GE419.out) | exact HB.out)) hb); clear HO_409001; clear HO_420001; clear BK408; clear BK419; clear HB; have HO_409001 := n0_; have HO_420001 := n1_; have BK408 := n2_; have BK419 := n3_; have HB := n4_; clear n0_ n1_ n2_ n3_ n4_; (try clear hb); (try clear hb2); (try clear hk); (try clear hi)) | ((with_reducible refine gate_callee (f := 11) rfl ?_); refine goesL_ (some 76) rfl rfl Tryz.func11 (by kernel_rfl) rfl #[.slice A0 l0.length c0] rfl (by (try simp only [List.map_toArray, List.map_cons, List.map_nil]); first | done | rfl | (simp only [List.length_drop, List.length_take]; rfl)) ?_; (with_reducible refine (laws_toFileS.calls kj25 _ _ l0 t437 _ ?side1 ?side2 A72.out).mono ?_); (case side1 => repeat (first | exact (Kd.C_below HR0.out HB.out) | (with_reducible refine Kd.C_alloc ?_ _) | (with_reducible refine Kd.C_drewN ?_ _) | (with_reducible refine Kd.C_drew ?_))); (case side2 => exact HC0.out); rintro e w104 ⟨v438, rfl, ho0, hb⟩; refine ⟨_, rfl, ?_⟩; have n0_ := zK (Kd.R_below (by (with_reducible repeat (first | apply zR | apply zV | apply zW)); exact HO_409001.out) hb); have n1_ := zK (Kd.R_below (by (with_reducible repeat (first | apply zR | apply zV | apply zW)); exact HO_420001.out) hb); have n2_ := zK (Kd.R_lower ho0 (below_size (by repeat (first | (with_reducible first | exact HB.out | apply zA | apply zN | apply zD | refine below_set ?_ GE408.out | refine below_set ?_ GE419.out) | exact HB.out)))); have n3_ := zK (blk_below (g := gb408) (o := .cells #[.int .i64 t404, .slice Ao36 t405.length co36] 26 (0, 0)) (by (with_reducible repeat (first | refine zM ?_ _ | refine zP ?_ | refine zQ ?_ _)); exact BK408.out) hb); have n4_ := zK (blk_below (g := gb419) (o := .cells #[.int .i64 t415, .slice Ao45 t416.length co45] 26 (0, 0)) (by (with_reducible repeat (first | refine zM ?_ _ | refine zP ?_ | refine zQ ?_ _)); exact BK419.out) hb); have n5_ := zK (below_step (by repeat (first | (with_reducible first | exact HB.out | apply zA | apply zN | apply zD | refine below_set ?_ GE408.out | refine below_set ?_ GE419.out) | exact HB.out)) hb); clear HO_409001; clear HO_420001; clear BK408; clear BK419; clear HB; have HO_409001 := n0_; have HO_420001 := n1_; have HO439 := n2_; have BK408 := n3_; have BK419 := n4_; have HB := n5_; clear n0_ n1_ n2_ n3_ n4_ n5_; (try clear hb); (try clear hb2); (try clear hk); (try clear hi); (try clear ho0)) | ((with_reducible refine gate_callee (f := 11) rfl ?_); refine goesL_ (some 78) rfl rfl Tryz.func11 (by kernel_rfl) rfl #[.slice A1 l1.length c1] rfl (by (try simp only [List.map_toArray, List.map_cons, List.map_nil]); first | done | rfl | (simp only [List.length_drop, List.length_take]; rfl)) ?_; (with_reducible refine (laws_toFileS.calls kj25 _ _ l1 t440 _ ?side1 ?side2 A73.out).mono ?_); (case side1 => repeat (first | exact (Kd.C_below HR1.out HB.out) | (with_reducible refine Kd.C_alloc ?_ _) | (with_reducible refine Kd.C_drewN ?_ _) | (with_reducible refine Kd.C_drew ?_))); (case side2 => exact HC1.out); rintro e w105 ⟨v441, rfl, ho0, hb⟩; refine ⟨_, rfl, ?_⟩; have n0_ := zK (Kd.R_below (by (with_reducible repeat (first | apply zR | apply zV | apply zW)); exact HO_409001.out) hb); have n1_ := zK (Kd.R_below (by (with_reducible repeat (first | apply zR | apply zV | apply zW)); exact HO_420001.out) hb); have n2_ := zK (Kd.R_elder' (by (with_reducible repeat (first | apply zR | apply zV | apply zW)); exact HO439.out) (Kd.R_base ho0) hb); have n3_ := zK (Kd.R_lower (Kd.R_new' ho0 (Kd.R_lt (by (with_reducible repeat (first | apply zR | apply zV | apply zW)); exact HO439.out))) (below_size (by repeat (first | (with_reducible first | exact HB.out | apply zA | apply zN | apply zD | refine below_set ?_ GE408.out | refine below_set ?_ GE419.out) | exact HB.out)))); have n4_ := zK (blk_below (g := gb408) (o := .cells #[.int .i64 t404, .slice Ao36 t405.length co36] 26 (0, 0)) (by (with_reducible repeat (first | refine zM ?_ _ | refine zP ?_ | refine zQ ?_ _)); exact BK408.out) hb); have n5_ := zK (blk_below (g := gb419) (o := .cells #[.int .i64 t415, .slice Ao45 t416.length co45] 26 (0, 0)) (by (with_reducible repeat (first | refine zM ?_ _ | refine zP ?_ | refine zQ ?_ _)); exact BK419.out) hb); have n6_ := zK (below_step (by repeat (first | (with_reducible first | exact HB.out | apply zA | apply zN | apply zD | refine below_set ?_ GE408.out | refine below_set ?_ GE419.out) | exact HB.out)) hb); clear HO_409001; clear HO_420001; clear HO439; clear BK408; clear BK419; clear HB; have HO_409001 := n0_; have HO_420001 := n1_; have HO439 := n2_; have HO442 := n3_; have BK408 := n4_; have BK419 := n5_; have HB := n6_; clear n0_ n1_ n2_ n3_ n4_ n5_ n6_; (try clear hb); (try clear hb2); (try clear hk); (try clear hi); (try clear ho0); obtain ⟨Ao106, co106, eo106⟩ := Kd.R_slice HO439.out; subst eo106; obtain ⟨Ao107, co107, eo107⟩ := Kd.R_slice HO442.out; subst eo107) | ((with_reducible refine gate_callee (f := 12) rfl ?_); refine goesL_ (some 79) rfl rfl Tryz.func12 (by kernel_rfl) rfl #[.slice Ao106 t437.length co106, .slice Ao107 t440.length co107] rfl (by (try simp only [List.map_toArray, List.map_cons, List.map_nil]); first | done | rfl | (simp only [List.length_drop, List.length_take]; rfl)) ?_; (with_reducible refine (impl_DiffFiles.calls kj25 (fun k_ => some k_ = (.slice Ao106 t437.length co106 : Value).ownBlock) _ _ t437 (fun k_ => some k_ = (.slice Ao107 t440.length co107 : Value).ownBlock) _ _ t440 t443 t444 _ ?side1 ?side2 A74.out).mono ?_); (case side1 => exact Kd.R_V (Kd.R_tight rfl (Kd.R_types (Kd.R_types (Kd.R_apart' (Kd.R_apart' (HO439.out) (Kd.R_typed HO_409001.out) (by decide)) (Kd.R_typed HO_420001.out) (by decide)) BK408.out (by decide)) BK419.out (by decide)))); (case side2 => exact Kd.R_V (Kd.R_tight rfl (Kd.R_types (Kd.R_types (Kd.R_apart' (Kd.R_apart' (HO442.out) (Kd.R_typed HO_409001.out) (by decide)) (Kd.R_typed HO_420001.out) (by decide)) BK408.out (by decide)) BK419.out (by decide)))); rintro e w108 ⟨v445, rfl, ho0, hb⟩; refine ⟨_, rfl, ?_⟩; have n0_ := zK (Kd.R_elder' (by (with_reducible repeat (first | apply zR | apply zV | apply zW)); exact HO_409001.out) (Kd.R_base ho0) hb); have n1_ := zK (Kd.R_elder' (by (with_reducible repeat (first | apply zR | apply zV | apply zW)); exact HO_420001.out) (Kd.R_base ho0) hb); have n2_ := zK (Kd.R_below (by (with_reducible repeat (first | apply zR | apply zV | apply zW)); exact HO439.out) hb); have n3_ := zK (Kd.R_below (by (with_reducible repeat (first | apply zR | apply zV | apply zW)); exact HO442.out) hb); have n4_ := zK (Kd.R_lower (Kd.R_new' (Kd.R_new' (Kd.R_mono (ok' := fun k_ => True) ho0 (fun _ hk_ => trivial)) (Kd.R_lt (by (with_reducible repeat (first | apply zR | apply zV | apply zW)); exact HO_409001.out))) (Kd.R_lt (by (with_reducible repeat (first | apply zR | apply zV | apply zW)); exact HO_420001.out))) (below_size (by repeat (first | (with_reducible first | exact HB.out | apply zA | apply zN | apply zD | refine below_set ?_ GE408.out | refine below_set ?_ GE419.out) | exact HB.out)))); have n5_ := zK (blk_below (g := gb408) (o := .cells #[.int .i64 t404, .slice Ao36 t405.length co36] 26 (0, 0)) (by (with_reducible repeat (first | refine zM ?_ _ | refine zP ?_ | refine zQ ?_ _)); exact BK408.out) hb); have n6_ := zK (blk_below (g := gb419) (o := .cells #[.int .i64 t415, .slice Ao45 t416.length co45] 26 (0, 0)) (by (with_reducible repeat (first | refine zM ?_ _ | refine zP ?_ | refine zQ ?_ _)); exact BK419.out) hb); have n7_ := zK (below_step (by repeat (first | (with_reducible first | exact HB.out | apply zA | apply zN | apply zD | refine below_set ?_ GE408.out | refine below_set ?_ GE419.out) | exact HB.out)) hb); clear HO_409001; clear HO_420001; clear HO439; clear HO442; clear BK408; clear BK419; clear HB; have HO_409001 := n0_; have HO_420001 := n1_; have HO439 := n2_; have HO442 := n3_; have HO446 := n4_; have BK408 := n5_; have BK419 := n6_; have HB := n7_; clear n0_ n1_ n2_ n3_ n4_ n5_ n6_ n7_; (try clear hb); (try clear hb2); (try clear hk); (try clear hi); (try clear ho0)) | ((with_reducible refine gate_dst (N := 13) rfl ?_); refine box_event ?hg (N := 13) ?hd (cs := #[.int .i64 0, .slice none 0 0]) (t := 26) ?hr ?_; (case hd => rfl); (case hg => rfl); (case hr => first | (go_simp; done) | (go_simp; rfl)); intro gb447 hg w109 hbox hb; have n0_ := zK (Kd.R_below (by (with_reducible repeat (first | apply zR | apply zV | apply zW)); exact HO_409001.out) hb); have n1_ := zK (Kd.R_below (by (with_reducible repeat (first | apply zR | apply zV | apply zW)); exact HO_420001.out) hb); have n2_ := zK (Kd.R_below (by (with_reducible repeat (first | apply zR | apply zV | apply zW)); exact HO439.out) hb); have n3_ := zK (Kd.R_below (by (with_reducible repeat (first | apply zR | apply zV | apply zW)); exact HO442.out) hb); have n4_ := zK (Kd.R_below (by (with_reducible repeat (first | apply zR | apply zV | apply zW)); exact HO446.out) hb); have n5_ := zK (blk_below (g := gb408) (o := .cells #[.int .i64 t404, .slice Ao36 t405.length co36] 26 (0, 0)) (by (with_reducible repeat (first | refine zM ?_ _ | refine zP ?_ | refine zQ ?_ _)); exact BK408.out) hb); have n6_ := zK (blk_below (g := gb419) (o := .cells #[.int .i64 t415, .slice Ao45 t416.length co45] 26 (0, 0)) (by (with_reducible repeat (first | refine zM ?_ _ | refine zP ?_ | refine zQ ?_ _)); exact BK419.out) hb); have n7_ := zK (below_step (by repeat (first | (with_reducible first | exact HB.out | apply zA | apply zN | apply zD | refine below_set ?_ GE408.out | refine below_set ?_ GE419.out) | exact HB.out)) hb); have n8_ := zK (hbox); have n9_ := zK ((by rw [hg]; exact (below_size (by repeat (first | (with_reducible first | exact HB.out | apply zA | apply zN | apply zD | refine below_set ?_ GE408.out | refine below_set ?_ GE419.out) | exact HB.out))) : w.heap.size ≤ gb447)); have n10_ := zK ((by rw [hg]; exact (below_size (by repeat (first | (with_reducible first | exact HB.out | apply zA | apply zN | apply zD | refine below_set ?_ GE408.out | refine below_set ?_ GE419.out) | exact HB.out))) : w.heap.size ≤ gb447)); have n11_ := zK ((by rw [hg]; exact Nat.ne_of_lt (blk_lt (g := gb408) (o := .cells #[.int .i64 t404, .slice Ao36 t405.length co36] 26 (0, 0)) (by (with_reducible repeat (first | refine zM ?_ _ | refine zP ?_ | refine zQ ?_ _)); exact BK408.out)) : gb408 ≠ gb447)); have n12_ := zK ((by rw [hg]; exact Nat.ne_of_gt (blk_lt (g := gb408) (o := .cells #[.int .i64 t404, .slice Ao36 t405.length co36] 26 (0, 0)) (by (with_reducible repeat (first | refine zM ?_ _ | refine zP ?_ | refine zQ ?_ _)); exact BK408.out)) : gb447 ≠ gb408)); have n13_ := zK ((by rw [hg]; exact Nat.ne_of_lt (blk_lt (g := gb419) (o := .cells #[.int .i64 t415, .slice Ao45 t416.length co45] 26 (0, 0)) (by (with_reducible repeat (first | refine zM ?_ _ | refine zP ?_ | refine zQ ?_ _)); exact BK419.out)) : gb419 ≠ gb447)); have n14_ := zK ((by rw [hg]; exact Nat.ne_of_gt (blk_lt (g := gb419) (o := .cells #[.int .i64 t415, .slice Ao45 t416.length co45] 26 (0, 0)) (by (with_reducible repeat (first | refine zM ?_ _ | refine zP ?_ | refine zQ ?_ _)); exact BK419.out)) : gb447 ≠ gb419)); clear HO_409001; clear HO_420001; clear HO439; clear HO442; clear HO446; clear BK408; clear BK419; clear HB; have HO_409001 := n0_; have HO_420001 := n1_; have HO439 := n2_; have HO442 := n3_; have HO446 := n4_; have BK408 := n5_; have BK419 := n6_; have HB := n7_; have BK447 := n8_; have GW447 := n9_; have GE447 := n10_; have NB408_447 := n11_; have NB447_408 := n12_; have NB419_447 := n13_; have NB447_419 := n14_; clear n0_ n1_ n2_ n3_ n4_ n5_ n6_ n7_ n8_ n9_ n10_ n11_ n12_ n13_ n14_; clear hb hbox hg; have hnb110 := NB447_408.out; have hnc110 := NB408_447.out; have hnb111 := NB447_419.out; have hnc111 := NB419_447.out; have hcz112_0 : w109.cell? ⟨gb447, 0, none⟩ = some (.int .i64 0) := (blk_cell BK447.out 0).trans rfl; have hcz112_1 : w109.cell? ⟨gb447, 1, none⟩ = some (.slice none 0 0) := (blk_cell BK447.out 1).trans rfl; have hfz112_0 := blk_frozen BK447.out 0; have hfz112_1 := blk_frozen BK447.out 1; obtain ⟨Ao113, co113, eo113⟩ := Kd.R_slice HO446.out; subst eo113; have hcz114_0 : w109.cell? ⟨gb408, 0, none⟩ = some (.int .i64 t404) := (blk_cell BK408.out 0).trans rfl; have hcz114_1 : w109.cell? ⟨gb408, 1, none⟩ = some (.slice Ao36 t405.length co36) := (blk_cell BK408.out 1).trans rfl; have hfz114_0 := blk_frozen BK408.out 0; have hfz114_1 := blk_frozen BK408.out 1) | ((with_reducible refine gate_callee (f := 13) rfl ?_); refine goesL_ (some 82) rfl rfl Tryz.func13 (by kernel_rfl) rfl #[.agg #[.int .i64 t443, .slice Ao113 t444.length co113], .agg #[.int .i64 t404, .slice Ao36 t405.length co36]] rfl (by (try simp only [List.map_toArray, List.map_cons, List.map_nil]); first | done | rfl | (simp only [List.length_drop, List.length_take]; rfl)) ?_; (with_reducible refine (laws_eqDeltasResult.calls kj25 t443 _ _ t444 t404 _ _ t405 true _ ?side1 ?side2 ?side3 ?side4 A75.out).mono ?_); (case side1 => refine (Kd.R_reads' (e := 77) (base := w.heap.size) (ok := fun k_ => ((True ∧ some k_ ≠ (.slice Ao36 t405.length co36 : Value).ownBlock) ∧ some k_ ≠ (.slice Ao45 t416.length co45 : Value).ownBlock)) (n := t444.length) (c := co113) ?_).2.2; exact (by (with_reducible repeat (first | apply zR | apply zV | apply zW)); exact (Kd.R_mono (Kd.R_far (p := ⟨gb447, 1, none⟩) (Kd.R_far (p := ⟨gb447, 0, none⟩) (Kd.R_types HO446.out BK447.out (by decide)) (fun _ hk => hk.2) (.int .i64 t443)) (fun _ hk => hk.2) (.slice Ao113 t444.length co113)) (fun _ h_ => h_.1)))); (case side2 => exact (Kd.R_reads' HO446.out).2.1); (case side3 => refine (Kd.R_reads' (e := 77) (base := w.heap.size) (ok := fun k_ => (some k_ ≠ (.slice Ao45 t416.length co45 : Value).ownBlock ∧ some k_ ≠ (.slice Ao113 t444.length co113 : Value).ownBlock)) (n := t405.length) (c := co36) ?_).2.2; exact (by (with_reducible repeat (first | apply zR | apply zV | apply zW)); exact (Kd.R_mono (Kd.R_far (p := ⟨gb447, 1, none⟩) (Kd.R_far (p := ⟨gb447, 0, none⟩) (Kd.R_types HO_409001.out BK447.out (by decide)) (fun _ hk => hk.2) (.int .i64 t443)) (fun _ hk => hk.2) (.slice Ao113 t444.length co113)) (fun _ h_ => h_.1)))); (case side4 => exact (Kd.R_reads' HO_409001.out).2.1); rintro e w115 ⟨rfl, hb⟩; refine ⟨_, rfl, ?_⟩; have n0_ := zK (Kd.R_below (by (with_reducible repeat (first | apply zR | apply zV | apply zW)); exact (Kd.R_mono (Kd.R_far (p := ⟨gb447, 1, none⟩) (Kd.R_far (p := ⟨gb447, 0, none⟩) (Kd.R_types HO_409001.out BK447.out (by decide)) (fun _ hk => hk.2) (.int .i64 t443)) (fun _ hk => hk.2) (.slice Ao113 t444.length co113)) (fun _ h_ => h_.1))) hb); have n1_ := zK (Kd.R_below (by (with_reducible repeat (first | apply zR | apply zV | apply zW)); exact (Kd.R_mono (Kd.R_far (p := ⟨gb447, 1, none⟩) (Kd.R_far (p := ⟨gb447, 0, none⟩) (Kd.R_types HO_420001.out BK447.out (by decide)) (fun _ hk => hk.2) (.int .i64 t443)) (fun _ hk => hk.2) (.slice Ao113 t444.length co113)) (fun _ h_ => h_.1))) hb); have n2_ := zK (Kd.R_below (by (with_reducible repeat (first | apply zR | apply zV | apply zW)); exact (Kd.R_mono (Kd.R_far (p := ⟨gb447, 1, none⟩) (Kd.R_far (p := ⟨gb447, 0, none⟩) (Kd.R_types HO439.out BK447.out (by decide)) (fun _ hk => hk.2) (.int .i64 t443)) (fun _ hk => hk.2) (.slice Ao113 t444.length co113)) (fun _ h_ => h_.1))) hb); have n3_ := zK (Kd.R_below (by (with_reducible repeat (first | apply zR | apply zV | apply zW)); exact (Kd.R_mono (Kd.R_far (p := ⟨gb447, 1, none⟩) (Kd.R_far (p := ⟨gb447, 0, none⟩) (Kd.R_types HO442.out BK447.out (by decide)) (fun _ hk => hk.2) (.int .i64 t443)) (fun _ hk => hk.2) (.slice Ao113 t444.length co113)) (fun _ h_ => h_.1))) hb); have n4_ := zK (Kd.R_below (by (with_reducible repeat (first | apply zR | apply zV | apply zW)); exact (Kd.R_mono (Kd.R_far (p := ⟨gb447, 1, none⟩) (Kd.R_far (p := ⟨gb447, 0, none⟩) (Kd.R_types HO446.out BK447.out (by decide)) (fun _ hk => hk.2) (.int .i64 t443)) (fun _ hk => hk.2) (.slice Ao113 t444.length co113)) (fun _ h_ => h_.1))) hb); have n5_ := zK (blk_below (g := gb408) (o := .cells #[.int .i64 t404, .slice Ao36 t405.length co36] 26 (0, 0)) (by (with_reducible repeat (first | refine zM ?_ _ | refine zP ?_ | refine zQ ?_ _)); refine blk_far ?_ NB408_447.out _; (with_reducible repeat (first | refine zM ?_ _ | refine zP ?_ | refine zQ ?_ _)); refine blk_far ?_ NB408_447.out _; (with_reducible repeat (first | refine zM ?_ _ | refine zP ?_ | refine zQ ?_ _)); exact BK408.out) hb); have n6_ := zK (blk_below (g := gb419) (o := .cells #[.int .i64 t415, .slice Ao45 t416.length co45] 26 (0, 0)) (by (with_reducible repeat (first | refine zM ?_ _ | refine zP ?_ | refine zQ ?_ _)); refine blk_far ?_ NB419_447.out _; (with_reducible repeat (first | refine zM ?_ _ | refine zP ?_ | refine zQ ?_ _)); refine blk_far ?_ NB419_447.out _; (with_reducible repeat (first | refine zM ?_ _ | refine zP ?_ | refine zQ ?_ _)); exact BK419.out) hb); have n7_ := zK (blk_below (g := gb447) (o := .cells #[.int .i64 t443, .slice Ao113 t444.length co113] 26 (0, 0)) (by (with_reducible repeat (first | refine zM ?_ _ | refine zP ?_ | refine zQ ?_ _)); refine blk_put (cs := #[.int .i64 t443, .slice none 0 0]) ?_ 1 _ rfl; (with_reducible repeat (first | refine zM ?_ _ | refine zP ?_ | refine zQ ?_ _)); refine blk_put (cs := #[.int .i64 0, .slice none 0 0]) ?_ 0 _ rfl; (with_reducible repeat (first | refine zM ?_ _ | refine zP ?_ | refine zQ ?_ _)); exact BK447.out) hb); have n8_ := zK (below_step (by repeat (first | (with_reducible first | exact HB.out | apply zA | apply zN | apply zD | refine below_set ?_ GE408.out | refine below_set ?_ GE419.out | refine below_set ?_ GE447.out) | exact HB.out)) hb); clear HO_409001; clear HO_420001; clear HO439; clear HO442; clear HO446; clear BK408; clear BK419; clear BK447; clear HB; have HO_409001 := n0_; have HO_420001 := n1_; have HO439 := n2_; have HO442 := n3_; have HO446 := n4_; have BK408 := n5_; have BK419 := n6_; have BK447 := n7_; have HB := n8_; clear n0_ n1_ n2_ n3_ n4_ n5_ n6_ n7_ n8_; (try clear hb); (try clear hb2); (try clear hk); (try clear hi); have hcz116_0 : w115.cell? ⟨gb419, 0, none⟩ = some (.int .i64 t415) := (blk_cell BK419.out 0).trans rfl; have hcz116_1 : w115.cell? ⟨gb419, 1, none⟩ = some (.slice Ao45 t416.length co45) := (blk_cell BK419.out 1).trans rfl; have hfz116_0 := blk_frozen BK419.out 0; have hfz116_1 := blk_frozen BK419.out 1) | ((with_reducible refine gate_callee (f := 17) rfl ?_); refine goesL_ (some 86) rfl rfl Tryz.func17 (by kernel_rfl) rfl #[.agg #[.int .i64 t415, .slice Ao45 t435.length co45], .int .i64 1] rfl (by (try simp only [List.map_toArray, List.map_cons, List.map_nil]); first | done | (rw [show t435.length = t416.length from (Kd.R_reads' HO_420001.out).1.symm] <;> rfl) | rfl | (simp only [List.length_drop, List.length_take]; rfl)) ?_; (with_reducible refine (laws_heldDeltasResult.calls t415 _ _ t435 1 t449 _ ?side1 ?side2 A77.out).mono ?_); (case side1 => repeat (first | exact (Kd.R_reads' HO_420001.out).2.2 | (with_reducible refine Kd.C_alloc ?_ _) | (with_reducible refine Kd.C_drewN ?_ _) | (with_reducible refine Kd.C_drew ?_))); (case side2 => rw [show t435.length = t416.length from (Kd.R_reads' HO_420001.out).1.symm]; exact (Kd.R_reads' HO_420001.out).2.1); rintro e w117 ⟨rfl, hb⟩; refine ⟨_, rfl, ?_⟩; have n0_ := zK (Kd.R_below (by (with_reducible repeat (first | apply zR | apply zV | apply zW)); exact HO_409001.out) hb); have n1_ := zK (Kd.R_below (by (with_reducible repeat (first | apply zR | apply zV | apply zW)); exact HO_420001.out) hb); have n2_ := zK (Kd.R_below (by (with_reducible repeat (first | apply zR | apply zV | apply zW)); exact HO439.out) hb); have n3_ := zK (Kd.R_below (by (with_reducible repeat (first | apply zR | apply zV | apply zW)); exact HO442.out) hb); have n4_ := zK (Kd.R_below (by (with_reducible repeat (first | apply zR | apply zV | apply zW)); exact HO446.out) hb); have n5_ := zK (blk_below (g := gb408) (o := .cells #[.int .i64 t404, .slice Ao36 t405.length co36] 26 (0, 0)) (by (with_reducible repeat (first | refine zM ?_ _ | refine zP ?_ | refine zQ ?_ _)); exact BK408.out) hb); have n6_ := zK (blk_below (g := gb419) (o := .cells #[.int .i64 t415, .slice Ao45 t416.length co45] 26 (0, 0)) (by (with_reducible repeat (first | refine zM ?_ _ | refine zP ?_ | refine zQ ?_ _)); exact BK419.out) hb); have n7_ := zK (blk_below (g := gb447) (o := .cells #[.int .i64 t443, .slice Ao113 t444.length co113] 26 (0, 0)) (by (with_reducible repeat (first | refine zM ?_ _ | refine zP ?_ | refine zQ ?_ _)); exact BK447.out) hb); have n8_ := zK (below_step (by repeat (first | (with_reducible first | exact HB.out | apply zA | apply zN | apply zD | refine below_set ?_ GE408.out | refine below_set ?_ GE419.out | refine below_set ?_ GE447.out) | exact HB.out)) hb); clear HO_409001; clear HO_420001; clear HO439; clear HO442; clear HO446; clear BK408; clear BK419; clear BK447; clear HB; have HO_409001 := n0_; have HO_420001 := n1_; have HO439 := n2_; have HO442 := n3_; have HO446 := n4_; have BK408 := n5_; have BK419 := n6_; have BK447 := n7_; have HB := n8_; clear n0_ n1_ n2_ n3_ n4_ n5_ n6_ n7_ n8_; (try clear hb); (try clear hb2); (try clear hk); (try clear hi)))
              go_ret
              exact ⟨by first | rfl | (simp [errW_none, errW_some] <;> rfl) | (simp [*, errW_none, errW_some] <;> rfl), by repeat (first | (with_reducible first | exact HB.out | apply zA | apply zN | apply zD | refine below_set ?_ GE408.out | refine below_set ?_ GE419.out | refine below_set ?_ GE447.out) | exact HB.out)⟩
             ·
              rw [if_neg c98] at H
              have c98b0 : (t449 == t434) = false := beq_eq_false_iff_ne.mpr c98
              have c98b1 : (t449 != t434) = true := bne_iff_ne.mpr c98
              exact absurd ((Option.some.inj H).trans hT_) (by decide)
           ·
            replace c76 := Bool.eq_false_iff.mpr c76
            subst c76
            have H1 : (some false) = some r := by rw [if_neg (show ¬ (false = true) by decide)] at H; exact H
            clear H
            have H := H1
            clear H1
            exact absurd ((Option.some.inj H).trans hT_) (by decide)
          ·
           rw [if_neg c71] at H
           have c71b0 : (t436 == t434) = false := beq_eq_false_iff_ne.mpr c71
           have c71b1 : (t436 != t434) = true := bne_iff_ne.mpr c71
           exact absurd ((Option.some.inj H).trans hT_) (by decide)
     ·
      replace c23 := Bool.eq_false_iff.mpr c23
      subst c23
      have H1 : (some false) = some r := by rw [if_neg (show ¬ (false = true) by decide)] at H; exact H
      clear H
      have H := H1
      clear H1
      exact absurd ((Option.some.inj H).trans hT_) (by decide)
    ·
     replace c20 := Bool.eq_false_iff.mpr c20
     subst c20
     have H1 : (some false) = some r := by rw [if_neg (show ¬ (false = true) by decide)] at H; exact H
     clear H
     have H := H1
     clear H1
     exact absurd ((Option.some.inj H).trans hT_) (by decide)
   ·
    replace c17 := Bool.eq_false_iff.mpr c17
    subst c17
    have H1 : (some false) = some r := by rw [if_neg (show ¬ (false = true) by decide)] at H; exact H
    clear H
    have H := H1
    clear H1
    exact absurd ((Option.some.inj H).trans hT_) (by decide)

end Go.Proofs.YtjibadlbiapcmaaGreatDoor.PX

namespace Go.Proofs.YtjibadlbiapcmaaGreatDoorX
open Go Go.RowKit Go.Proofs.YtjibadlbiapcmaaGreatDoorW.PrintWords Go.Proofs.YtjibadlbiapcmaaGreatDoor.PX
open Go.Proofs.YtjibadlbiapcmaaGreatDoor.PX.X (lessB lessB_eq dataL backL back_data placeF insF sortF sortB compactB allP findF dataL_inj)
set_option linter.unusedVariables false
abbrev leP (x y : IFile) : Prop := dataL x.f0 ≤ dataL y.f0
theorem less_le {a b : ByteArray} (h : lessB a b = true) : dataL a ≤ dataL b := by
  rw [lessB_eq, decide_eq_true_eq] at h
  exact List.le_of_lt h
theorem nless_le {a b : ByteArray} (h : ¬ lessB a b = true) : dataL b ≤ dataL a := by
  rw [lessB_eq, decide_eq_true_eq] at h
  exact List.not_lt.1 h
theorem place_le (l : List IFile) (s : ByteArray) : ∀ n, placeF l s n ≤ n
  | 0 => Nat.le_refl _
  | n + 1 => by
    unfold placeF
    split
    · have := place_le l s n; omega
    · exact Nat.le_refl _
theorem place_after (l : List IFile) (s : ByteArray) : ∀ n i, placeF l s n ≤ i → i < n → lessB s (l.getD i z74).f0 = true
  | 0, i, _, h => absurd h (by omega)
  | n + 1, i, h1, h2 => by
    unfold placeF at h1
    split at h1
    · rename_i h
      by_cases e : i = n
      · rw [e]; exact h
      · exact place_after l s n i h1 (by omega)
    · exact absurd h1 (by omega)
theorem place_ahead (l : List IFile) (s : ByteArray) : ∀ n, 0 < placeF l s n → ¬ lessB s (l.getD (placeF l s n - 1) z74).f0 = true
  | 0, h => absurd h (Nat.lt_irrefl 0)
  | n + 1, h => by
    unfold placeF at h ⊢
    split
    · rename_i hc
      rw [if_pos hc] at h
      exact place_ahead l s n h
    · rename_i hc
      exact hc
theorem getD_in {l : List IFile} {i : Nat} (h : i < l.length) : l.getD i z74 = l[i] := by
  rw [List.getD_eq_getElem?_getD, List.getElem?_eq_getElem h, Option.getD_some]
theorem ins_perm (l : List IFile) (x : IFile) : (insF l x).Perm (x :: l) := by
  unfold insF
  rw [List.append_assoc, List.singleton_append]
  refine List.perm_middle.trans ?_
  rw [List.take_append_drop]
theorem ins_rising (l : List IFile) (x : IFile) (h : l.Pairwise leP) : (insF l x).Pairwise leP := by
  have hp := place_le l x.f0 l.length
  have h2 := place_after l x.f0 l.length
  have h3 := place_ahead l x.f0 l.length
  unfold insF
  generalize placeF l x.f0 l.length = p at hp h2 h3 ⊢
  have hh := h
  rw [List.pairwise_iff_getElem] at hh
  have htd : (l.take p ++ l.drop p).Pairwise leP := by rw [List.take_append_drop]; exact h
  obtain ⟨ht, hd, hc⟩ := List.pairwise_append.1 htd
  rw [List.append_assoc, List.singleton_append]
  refine List.pairwise_append.2 ⟨ht, List.pairwise_cons.2 ⟨?_, hd⟩, ?_⟩
  · intro y hy
    obtain ⟨j, hj, rfl⟩ := List.getElem_of_mem hy
    rw [List.length_drop] at hj
    rw [List.getElem_drop]
    have := h2 (p + j) (by omega) (by omega)
    rw [getD_in (by omega)] at this
    exact less_le this
  · intro y hy z hz
    rcases List.mem_cons.1 hz with rfl | hz
    · obtain ⟨j, hj, rfl⟩ := List.getElem_of_mem hy
      rw [List.length_take] at hj
      rw [List.getElem_take]
      have h4 := h3 (by omega)
      rw [getD_in (by omega)] at h4
      have h5 := nless_le h4
      by_cases e : j = p - 1
      · subst e; exact h5
      · exact List.le_trans (hh j (p - 1) (by omega) (by omega) (by omega)) h5
    · exact hc y hy z hz
theorem fold_perm : ∀ (l acc : List IFile), (l.foldl insF acc).Perm (l ++ acc)
  | [], acc => List.Perm.refl _
  | x :: l, acc => by
    rw [List.foldl_cons]
    refine (fold_perm l _).trans ?_
    refine (List.Perm.append_left l (ins_perm acc x)).trans ?_
    exact List.perm_middle
theorem fold_rising : ∀ (l acc : List IFile), acc.Pairwise leP → (l.foldl insF acc).Pairwise leP
  | [], acc, h => h
  | x :: l, acc, h => by
    rw [List.foldl_cons]
    exact fold_rising l _ (ins_rising acc x h)
theorem sort_paths (l : List IFile) : (sortF l).map (fun x => x.f0) = sortB (l.map fun x => x.f0) := by
  have hp : (sortF l).Perm l := by
    have := fold_perm l []
    rwa [List.append_nil] at this
  have hr : (sortF l).Pairwise leP := fold_rising l [] List.Pairwise.nil
  have key : ((sortF l).map fun x => x.f0).map dataL = ((l.map fun x => x.f0).map dataL).mergeSort fun x y => decide (x ≤ y) := by
    refine List.Perm.eq_of_pairwise (le := fun a b => a ≤ b) (fun a b _ _ h1 h2 => List.le_antisymm h1 h2) ?_ ?_ ?_
    · rw [List.pairwise_map, List.pairwise_map]
      exact hr
    · have := List.pairwise_mergeSort (le := fun (x y : List UInt8) => decide (x ≤ y)) (fun a b c h1 h2 => by
        rw [decide_eq_true_eq] at *
        exact List.le_trans h1 h2) (fun a b => by
        rw [Bool.or_eq_true, decide_eq_true_eq, decide_eq_true_eq]
        exact List.le_total a b) ((l.map fun x => x.f0).map dataL)
      exact this.imp (fun h => of_decide_eq_true h)
    · exact ((hp.map _).map _).trans (List.mergeSort_perm _ _).symm
  unfold sortB
  rw [← key, back_data]
/-- The first of each run of equal paths, up to the m-th file. -/
def dedP (l : List IFile) (m : Nat) : List ByteArray := (Lib.compactUpTo ((l.map fun x => x.f0).map dataL).toArray m).map backL
theorem get_path (l : List IFile) (m : Nat) (h : m < l.length) : (((l.map fun x => x.f0).map dataL).toArray)[m]! = dataL (fileAt l m).f0 := by
  rw [getElem!_pos _ m (by simpa using h)]
  unfold fileAt
  rw [getD_in h]
  simp
theorem dedP_succ (l : List IFile) (m : Nat) (h : m < l.length) : dedP l (m + 1) = dedP l m ++ (if m = 0 ∨ (fileAt l m).f0 ≠ (fileAt l (m - 1)).f0 then [(fileAt l m).f0] else []) := by
  unfold dedP
  rw [Lib.compactUpTo_succ, List.map_append, get_path l m h]
  congr 1
  by_cases h0 : m = 0
  · subst h0
    rw [if_pos (Lib.keeps_lt_one _ 0 (by omega)), if_pos (.inl rfl)]
    rfl
  · by_cases he : (fileAt l m).f0 = (fileAt l (m - 1)).f0
    · rw [Lib.keeps_neg (by omega) (by rw [get_path l m h, get_path l (m - 1) (by omega), he]), if_neg (by decide), if_neg (by rintro (z | z); exact h0 z; exact z he)]
      rfl
    · rw [Lib.keeps_pos (by rw [get_path l m h, get_path l (m - 1) (by omega)]; exact fun z => he (dataL_inj z)), if_pos rfl, if_pos (.inr he)]
      rfl
theorem dedP_len (l : List IFile) : ∀ m, m ≤ l.length → (dedP l m).length ≤ m
  | 0, _ => Nat.le_refl _
  | m + 1, h => by
    have := dedP_len l m (by omega)
    rw [dedP_succ l m (by omega), List.length_append]
    split
    · rw [List.length_singleton]; omega
    · rw [List.length_nil]; omega
theorem paths_l0 (l : List IFile) (hl : l.length ≤ 1048576) : ∀ (d i : Nat), i + d = l.length → ∀ k, d < k → spec_l7Paths.l0 k l (dedP l i) (i : Int) = some (dedP l l.length)
  | 0, i, hi, k, hk => by
    obtain ⟨k, rfl⟩ : ∃ m, k = m + 1 := ⟨k - 1, by omega⟩
    rw [spec_l7Paths.l0, if_neg (by omega), show i = l.length by omega]
  | d + 1, i, hi, k, hk => by
    obtain ⟨k, rfl⟩ : ∃ m, k = m + 1 := ⟨k - 1, by omega⟩
    have hlen := dedP_len l i (by omega)
    have ih := paths_l0 l hl d (i + 1) (by omega) k (by omega)
    rw [dedP_succ l i (by omega)] at ih
    rw [spec_l7Paths.l0, if_pos (by omega), rd_file, wrap_up i (by omega)]
    by_cases h0 : i = 0
    · rw [if_pos (.inl h0)] at ih
      rw [if_pos (by omega), if_pos (by omega), if_pos (by omega)]
      exact ih
    · have hw : wrap64 ((i : Int) - 1) = ((i - 1 : Nat) : Int) := by rw [wrap_in (by omega) (by omega)]; omega
      rw [if_neg (by omega), if_pos (by omega), hw, if_pos (by omega), if_pos (by omega), rd_file]
      by_cases he : (fileAt l i).f0 = (fileAt l (i - 1)).f0
      · rw [if_neg (by rintro (z | z); exact h0 z; exact z he), List.append_nil] at ih
        rw [if_pos (congrArg ByteArray.toList he)]
        exact ih
      · rw [if_pos (.inr he)] at ih
        rw [if_neg (fun z => he (toList_iff.1 z)), if_pos (by omega)]
        exact ih
/-- The paths of two lists of files, rising, none twice. -/
def pathsV (a b : List IFile) : List ByteArray := compactB (sortB ((a ++ b).map fun x => x.f0))
theorem paths_ded (l : List IFile) : dedP (sortF l) (sortF l).length = compactB (sortB (l.map fun x => x.f0)) := by
  unfold dedP compactB Lib.compact
  rw [← sort_paths]
  congr 1
  rw [List.length_map, List.length_map]
theorem sortF_length (l : List IFile) : (sortF l).length = l.length := by
  have := X.sortF_len l []
  rw [List.length_nil, Nat.zero_add] at this
  exact this
theorem pathsV_len (a b : List IFile) : (pathsV a b).length ≤ a.length + b.length := by
  unfold pathsV
  rw [← paths_ded]
  have := dedP_len (sortF (a ++ b)) _ (Nat.le_refl _)
  rw [sortF_length, List.length_append] at this
  rw [sortF_length, List.length_append]
  exact this
theorem spec_paths (a b : List IFile) (h : a.length + b.length ≤ 1048576) (k : Nat) (hk : a.length + b.length < k) : spec_l7Paths.f k a b = some (pathsV a b) := by
  have hs := sortF_length (a ++ b)
  have hab : (a ++ b).length = a.length + b.length := List.length_append
  unfold spec_l7Paths.f pathsV spec_l7Sort.f
  simp only [Option.bind_some, List.length_nil, List.nil_append]
  rw [if_pos (by omega), if_pos (by omega), if_pos (by omega)]
  simp only [Option.bind_some]
  rw [← paths_ded]
  exact paths_l0 (sortF (a ++ b)) (by omega) (sortF (a ++ b)).length 0 (by omega) k (by omega)
theorem impl_paths (a b : List IFile) (h : a.length + b.length ≤ 1048576) : impl_pathsOf.f [a, b] = some (pathsV a b) := by
  have e : allP [a, b] = (a ++ b).map fun x => x.f0 := by
    rw [List.map_append]
    show a.map _ ++ (b.map _ ++ []) = _
    rw [List.append_nil]
  unfold impl_pathsOf.f pathsV
  rw [e]
  have hab : (a ++ b).length = a.length + b.length := List.length_append
  have hm : ((a ++ b).map fun x => x.f0).length = (a ++ b).length := List.length_map _
  rw [if_pos (by simp only [List.length_cons, List.length_nil]; omega), if_pos (by omega)]
theorem find_l0 (l : List IFile) (s : ByteArray) (hl : l.length ≤ 1048576) : ∀ (d i : Nat), i + d = l.length → ∀ k, d < k → spec_l7Find.l0 k l s (i : Int) = some ((findF (l.drop i) s).f0, (findF (l.drop i) s).f1, (findF (l.drop i) s).f2)
  | 0, i, hi, k, hk => by
    obtain ⟨k, rfl⟩ : ∃ m, k = m + 1 := ⟨k - 1, by omega⟩
    rw [spec_l7Find.l0, if_neg (by omega), List.drop_eq_nil_of_le (by omega)]
    rfl
  | d + 1, i, hi, k, hk => by
    obtain ⟨k, rfl⟩ : ∃ m, k = m + 1 := ⟨k - 1, by omega⟩
    rw [spec_l7Find.l0, if_pos (by omega), if_pos (by omega), rd_file, wrap_up i (by omega), find_l0 l s hl d (i + 1) (by omega) k (by omega), getD_drop l i z74 (by omega)]
    have e : findF (l.getD i z74 :: l.drop (i + 1)) s = if (fileAt l i).f0 = s then fileAt l i else findF (l.drop (i + 1)) s := rfl
    rw [e]
    by_cases he : (fileAt l i).f0 = s
    · rw [if_pos (congrArg ByteArray.toList he), if_pos he]
    · rw [if_neg (fun z => he (toList_iff.1 z)), if_neg he]
theorem spec_find (l : List IFile) (s : ByteArray) (hl : l.length ≤ 1048576) (k : Nat) (hk : l.length < k) : spec_l7Find.f k l s = some ((findF l s).f0, (findF l s).f1, (findF l s).f2) := by
  have := find_l0 l s hl l.length 0 (by omega) k hk
  rw [List.drop_zero] at this
  exact this
theorem impl_find (l : List IFile) (s : ByteArray) (hl : l.length ≤ 1048576) : impl_fileAt.f l s = some ((findF l s).f0, (findF l s).f1, (findF l s).f2) := by
  unfold impl_fileAt.f
  rw [if_pos hl]
open Go.Proofs.YtjibadlbiapcmaaGreatDoor.PX.X (findF dMark dMarks)
set_option linter.unusedVariables false
abbrev DT := S77
theorem szFileS_tells2 (l : List LFile) (hl : l.length ≤ 140737488351232) (ho : ∀ x ∈ l, fileOk x) (left : Int) (h0 : 0 ≤ left) (h1 : left ≤ 1048576) (k : Nat) (hk : l.length < k) :
    ∃ r, laws_szFileS.f k l left = some r ∧ r ≤ left ∧ (0 ≤ r → l.length ≤ 1048576 ∧ ∀ x ∈ l, fileSmall x) := by
  unfold laws_szFileS.f
  rw [wrap_in (by omega) (by omega)]
  split
  · exact ⟨_, rfl, by omega, fun z => absurd z (by omega)⟩
  · obtain ⟨r, hr, hle, hq⟩ := sz_all (F := laws_szFileS.l0) (Z := fun x left => laws_szFile.f x.f0 x.f1 x.f2 left) fileOk fileSmall z71 szFile_tells (fun k xs left i => by rw [laws_szFileS.l0]; rfl) l hl ho (left - l.length) (by omega) (by omega) k hk
    exact ⟨r, hr, by omega, fun z => ⟨by omega, hq z⟩⟩
def fileNe (x y : IFile) : Bool := !(x.f0.toList == y.f0.toList) || (!(x.f1 == y.f1) || (!(x.f2.toList == y.f2.toList)))
def pathAt (P : List ByteArray) (i : Nat) : ByteArray := rdOf ByteArray.empty P (i : Int)
def deltaStep (a b : List IFile) (P : List ByteArray) (i : Nat) (out : List DT) : Sum (Int × List DT) (List DT) :=
  if fileNe (findF a (pathAt P i)) (findF b (pathAt P i)) = true then .inr (out ++ [⟨pathAt P i, findF a (pathAt P i), findF b (pathAt P i)⟩]) else .inr out
theorem delta_inv (a b : List IFile) (P : List ByteArray) : ∀ i (s s' : List DT), i < P.length → s.length ≤ i → deltaStep a b P i s = .inr s' → s'.length ≤ i + 1 := by
  intro i s s' _ hs h
  unfold deltaStep at h
  split at h
  · have := Sum.inr.inj h
    subst this
    rw [List.length_append, List.length_singleton]
    omega
  · have := Sum.inr.inj h
    subst this
    omega
def deltasV (a b : List IFile) (P : List ByteArray) : Int × List DT := run (deltaStep a b P) (fun out => (0, out)) P.length 0 []
theorem run_len (a b : List IFile) (P : List ByteArray) : ∀ (d i : Nat) (out : List DT), (run (deltaStep a b P) (fun out => ((0 : Int), out)) d i out).2.length ≤ out.length + d
  | 0, i, out => Nat.le_refl _
  | d + 1, i, out => by
    by_cases h : fileNe (findF a (pathAt P i)) (findF b (pathAt P i)) = true
    · rw [run_on (s' := out ++ [⟨pathAt P i, findF a (pathAt P i), findF b (pathAt P i)⟩]) (by unfold deltaStep; rw [if_pos h])]
      have := run_len a b P d (i + 1) (out ++ [⟨pathAt P i, findF a (pathAt P i), findF b (pathAt P i)⟩])
      rw [List.length_append, List.length_singleton] at this
      omega
    · rw [run_on (s' := out) (by unfold deltaStep; rw [if_neg h])]
      have := run_len a b P d (i + 1) out
      omega
theorem deltasV_len (a b : List IFile) (P : List ByteArray) : (deltasV a b P).2.length ≤ P.length := by
  have := run_len a b P P.length 0 []
  rw [List.length_nil, Nat.zero_add] at this
  exact this
theorem spec_deltas (a b : List IFile) (P : List ByteArray) (ha : a.length ≤ 1048576) (hb : b.length ≤ 1048576) (hP : P.length ≤ 1048576) (k : Nat) (hk : 1048577 + P.length < k) :
    spec_DiffFiles.l0 k a b P 0 0 [] = some (deltasV a b P) := by
  refine loop0 (F := fun k i out => spec_DiffFiles.l0 k a b P (i : Int) 0 out) P.length 1048577 (fun i s => s.length ≤ i) (delta_inv a b P) (fun k i s hK hi hs => ?_) (fun k s _ _ => ?_) [] (Nat.le_refl _) k hk
  · have hi' : i < 9223372036854775807 := by omega
    simp only [spec_DiffFiles.l0]
    rw [if_pos (by omega), if_pos (by omega), spec_find a _ ha k (by omega), Option.bind_some, spec_find b _ hb k (by omega), Option.bind_some, wrap_up i hi']
    unfold deltaStep
    by_cases h : fileNe (findF a (pathAt P i)) (findF b (pathAt P i)) = true
    · rw [if_pos h]
      refine (if_pos h).trans ?_
      rw [if_pos (by omega)]
      rfl
    · rw [if_neg h]
      exact if_neg h
  · simp only [spec_DiffFiles.l0]
    rw [if_neg (by omega)]
theorem impl_deltas (a b : List IFile) (P : List ByteArray) (ha : a.length ≤ 1048576) (hb : b.length ≤ 1048576) (hP : P.length ≤ 1048576) (k : Nat) (hk : P.length < k) :
    impl_DiffFiles.l0 k a b [] P (P.length : Int) 0 = some (deltasV a b P) := by
  refine loop0 (F := fun k i out => impl_DiffFiles.l0 k a b out P (P.length : Int) (i : Int)) P.length 0 (fun i s => s.length ≤ i) (delta_inv a b P) (fun k i s hK hi hs => ?_) (fun k s _ _ => ?_) [] (Nat.le_refl _) k (by omega)
  · have hi' : i < 9223372036854775807 := by omega
    simp only [impl_DiffFiles.l0]
    rw [if_pos (by omega), if_pos (by omega), if_pos (by omega), impl_find a _ ha, Option.bind_some, impl_find b _ hb, Option.bind_some, wrap_up i hi']
    unfold deltaStep
    by_cases h : fileNe (findF a (pathAt P i)) (findF b (pathAt P i)) = true
    · rw [if_pos h]
      refine (if_pos h).trans ?_
      rw [if_pos (by omega)]
      rfl
    · rw [if_neg h]
      exact if_neg h
  · simp only [impl_DiffFiles.l0]
    rw [if_neg (by omega)]
def bothV (a b : List IFile) : Int := if filesV a = 0 then filesV b else filesV a
/-- What DiffFiles tells. -/
def diffV (a b : List IFile) : Int × List DT := if bothV a b = 0 then deltasV a b (pathsV a b) else (bothV a b, [])
theorem filesV_len {l : List IFile} (h : filesV l = 0) : l.length ≤ 60 := by
  unfold filesV at h
  by_cases c : l.length > 60
  · rw [if_pos c] at h
    exact absurd h (by decide)
  · omega
theorem both_len {a b : List IFile} (h : bothV a b = 0) : a.length ≤ 60 ∧ b.length ≤ 60 := by
  unfold bothV at h
  by_cases c : filesV a = 0
  · rw [if_pos c] at h
    exact ⟨filesV_len c, filesV_len h⟩
  · rw [if_neg c] at h
    exact absurd h c
theorem diffV_len (a b : List IFile) : (diffV a b).2.length ≤ 120 := by
  unfold diffV
  by_cases h : bothV a b = 0
  · rw [if_pos h]
    have h1 := deltasV_len a b (pathsV a b)
    have h2 := pathsV_len a b
    have h3 := both_len h
    omega
  · rw [if_neg h]
    exact Nat.zero_le _
theorem spec_diff (a b : List IFile) (ha : a.length ≤ 1048576) (hb : b.length ≤ 1048576) (sa : fSmall a) (sb : fSmall b) (k : Nat) (hk : 1052800 + a.length + b.length < k) : spec_DiffFiles.f (2 * k) a b = some (diffV a b) := by
  have hB : spec_l7Both.f (2 * k) a b = some (bothV a b) := by
    unfold spec_l7Both.f bothV
    rw [spec_files a ha sa k (by omega), Option.bind_some, spec_files b hb sb k (by omega)]
    simp only [Option.bind_some]
    split <;> rfl
  unfold spec_DiffFiles.f diffV
  rw [hB, Option.bind_some]
  by_cases h : bothV a b = 0
  · have h3 := both_len h
    have h2 := pathsV_len a b
    rw [if_pos h, if_pos h, spec_paths a b (by omega) (2 * k) (by omega), Option.bind_some]
    exact spec_deltas a b _ ha hb (by omega) (2 * k) (by omega)
  · rw [if_neg h, if_neg h]
theorem impl_diff (a b : List IFile) (ha : a.length ≤ 1048576) (hb : b.length ≤ 1048576) (sa : fSmall a) (sb : fSmall b) (k : Nat) (hk : 1052800 + a.length + b.length < k) : impl_DiffFiles.f k a b = some (diffV a b) := by
  unfold impl_DiffFiles.f diffV
  rw [impl_files a ha sa k (by omega), Option.bind_some, impl_files b hb sb k (by omega), Option.bind_some, show impl_firstCode.f k ([filesV a, filesV b] : List Int) = _ from firstCode_two _ _ k (by omega), Option.bind_some]
  show (if bothV a b = 0 then _ else _) = _
  by_cases h : bothV a b = 0
  · have h3 := both_len h
    have h2 := pathsV_len a b
    rw [if_pos h, if_pos h, impl_paths a b (by omega), Option.bind_some]
    exact impl_deltas a b _ ha hb (by omega) k (by omega)
  · rw [if_neg h, if_neg h]
    rfl
theorem eqDelta_tells (x y : DT) : ∃ t, laws_eqDelta.f x.f0 x.f1.f0 x.f1.f1 x.f1.f2 x.f2.f0 x.f2.f1 x.f2.f2 y.f0 y.f1.f0 y.f1.f1 y.f1.f2 y.f2.f0 y.f2.f1 y.f2.f2 = some t ∧ (t = true ↔ x = y) := by
  obtain ⟨p, o, n⟩ := x
  obtain ⟨p', o', n'⟩ := y
  unfold laws_eqDelta.f
  obtain ⟨t1, e1, i1⟩ := eqFile_tells o o'
  obtain ⟨t2, e2, i2⟩ := eqFile_tells n n'
  simp only [toList_iff, e1, e2, Option.bind_some]
  by_cases h1 : p = p'
  · rw [if_pos h1]
    cases t1 with
    | true =>
      cases t2 with
      | true => exact ⟨_, rfl, by simp [h1, i1.1 rfl, i2.1 rfl]⟩
      | false => exact ⟨_, rfl, by simp [show ¬ n = n' from fun z => absurd (i2.2 z) (by decide)]⟩
    | false => exact ⟨_, rfl, by simp [show ¬ o = o' from fun z => absurd (i1.2 z) (by decide)]⟩
  · rw [if_neg h1]; exact ⟨_, rfl, by simp [h1]⟩
theorem eqDeltas_same (c : Int) (l : List DT) (hl : l.length ≤ 1048576) (k : Nat) (hk : l.length < k) : laws_eqDeltasResult.f k c l c l = some true := by
  have h : laws_eqDeltaS.f k l l = some true := by
    unfold laws_eqDeltaS.f
    rw [if_pos rfl]
    exact eq_all (F := laws_eqDeltaS.l0) (E := fun x y => laws_eqDelta.f x.f0 x.f1.f0 x.f1.f1 x.f1.f2 x.f2.f0 x.f2.f1 x.f2.f2 y.f0 y.f1.f0 y.f1.f1 y.f1.f2 y.f2.f0 y.f2.f1 y.f2.f2) z77 eqDelta_tells (fun k xs ys i => by rw [laws_eqDeltaS.l0]; rfl) l (by omega) k hk
  unfold laws_eqDeltasResult.f
  rw [if_pos rfl, h, Option.bind_some, if_pos rfl]
theorem heldDeltaS_tells (L n : Nat) (hn : n + 7 * L ≤ 9223372036854775800) : laws_heldDeltaS.f (dMarks n L) (n : Int) = some ((n + 7 * L : Nat) : Int) := by
  unfold laws_heldDeltaS.f
  rw [if_pos (by omega), Int.toNat_natCast, Go.Proofs.YtjibadlbiapcmaaGreatDoor.PX.X.dMarks_len, if_pos hn, if_pos (Go.Proofs.YtjibadlbiapcmaaGreatDoor.PX.X.heldB_marks L n)]
theorem markDelta_tells (l : List DT) (h : l.length ≤ 1048576) : laws_markDeltaS.f l 1 = some (((1 + 7 * l.length : Nat) : Int), dMarks 1 l.length) := by
  unfold laws_markDeltaS.f
  rw [if_pos (by decide), show ((1 : Int)).toNat = 1 from rfl, if_pos (by omega)]
theorem diffFiles_pure (a b : List LFile) (ha1 : a.length * 40 ≤ 140737488351232) (ha2 : ∀ x ∈ a, x.f0.size ≤ 140737488351232 ∧ (Go.Lit.int .i64 x.f1).wf = true ∧ x.f2.size ≤ 140737488351232) (hb1 : b.length * 40 ≤ 140737488351232) (hb2 : ∀ x ∈ b, x.f0.size ≤ 140737488351232 ∧ (Go.Lit.int .i64 x.f1).wf = true ∧ x.f2.size ≤ 140737488351232) : ∃ k, laws_FnExactDiffFiles.f k a b = some true := by
  obtain ⟨m, hm0⟩ : ∃ m, m = a.length + b.length + 1052990 := ⟨_, rfl⟩
  obtain ⟨K, hK⟩ : ∃ K, 2 * m = K + 1 := ⟨2 * m - 1, by omega⟩
  refine ⟨2 * m, ?_⟩
  unfold laws_FnExactDiffFiles.f
  obtain ⟨r, hr, hle, hq⟩ := szFileS_tells2 a (by omega) (fun x hx => ⟨(ha2 x hx).1, (ha2 x hx).2.2⟩) 1048576 (by decide) (by decide) (2 * m) (by omega)
  rw [hr, Option.bind_some]
  by_cases c : r < 0
  · rw [if_pos c]
  obtain ⟨hna, hsa⟩ := hq (by omega)
  obtain ⟨r2, hr2, hle2, hq2⟩ := szFileS_tells2 b (by omega) (fun x hx => ⟨(hb2 x hx).1, (hb2 x hx).2.2⟩) r (by omega) (by omega) (2 * m) (by omega)
  rw [if_neg c, hr2, Option.bind_some]
  by_cases c2 : r2 < 0
  · rw [if_pos c2]
  obtain ⟨hnb, hsb⟩ := hq2 (by omega)
  have hma : (a.map fileConv).length = a.length := List.length_map _
  have hmb : (b.map fileConv).length = b.length := List.length_map _
  have hv := diffV_len (a.map fileConv) (b.map fileConv)
  have e1 := toFileS_tells a hna (2 * m) (by omega)
  have e1b := toFileS_tells b hnb (2 * m) (by omega)
  have e2 := spec_diff (a.map fileConv) (b.map fileConv) (by omega) (by omega) (fconv_small hsa) (fconv_small hsb) m (by omega)
  have e3 := impl_diff (a.map fileConv) (b.map fileConv) (by omega) (by omega) (fconv_small hsa) (fconv_small hsb) (2 * m) (by omega)
  have e4 := eqFileS_same (a.map fileConv) (by omega) (2 * m) (by omega)
  have e4b := eqFileS_same (b.map fileConv) (by omega) (2 * m) (by omega)
  have e5 := markFileS_tells (a.map fileConv) 1 (by omega) (2 * m) (by omega)
  have e5b := markFileS_tells (b.map fileConv) (1 + 3 * (a.map fileConv).length) (by omega) (2 * m) (by omega)
  have e6 := eqDeltas_same (diffV (a.map fileConv) (b.map fileConv)).1 (diffV (a.map fileConv) (b.map fileConv)).2 (by omega) (2 * m) (by omega)
  rw [if_neg c2]
  simp only [e1, e1b, e2, e3, e4, e4b, e6, Option.bind_some, if_true]
  rw [show laws_markFileS.f (2 * m) (a.map fileConv) 1 = _ from e5, Option.bind_some]
  rw [show laws_markFileS.f (2 * m) (b.map fileConv) _ = _ from e5b, Option.bind_some, if_neg (by omega)]
  rw [hK, laws_FnExactDiffFiles.j0, if_neg (by decide)]
  have m1 := markDelta_tells (diffV (a.map fileConv) (b.map fileConv)).2 (by omega)
  have m2 := heldDeltaS_tells (diffV (a.map fileConv) (b.map fileConv)).2.length 1 (by omega)
  have e1' := toFileS_tells a hna K (by omega)
  have e1b' := toFileS_tells b hnb K (by omega)
  have e3' := impl_diff (a.map fileConv) (b.map fileConv) (by omega) (by omega) (fconv_small hsa) (fconv_small hsb) K (by omega)
  have e6' := eqDeltas_same (diffV (a.map fileConv) (b.map fileConv)).1 (diffV (a.map fileConv) (b.map fileConv)).2 (by omega) K (by omega)
  unfold laws_markDeltasResult.f laws_heldDeltasResult.f
  rw [m1]
  simp only [Option.bind_some]
  rw [show laws_heldDeltaS.f (dMarks 1 (diffV (a.map fileConv) (b.map fileConv)).2.length) 1 = _ from m2]
  simp only [Option.bind_some]
  rw [if_neg (by omega)]
  simp only [Option.bind_some]
  rw [if_neg (by omega)]
  simp only [e1', e1b', e3', e6', Option.bind_some, if_true]
  rw [if_neg (by omega)]
end Go.Proofs.YtjibadlbiapcmaaGreatDoorX
