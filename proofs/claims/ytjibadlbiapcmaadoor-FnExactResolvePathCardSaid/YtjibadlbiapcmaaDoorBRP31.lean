/- Texts of this claim set one behind another by wip/bundle.py: PXf7, XResV, XLawResolvePath. -/
import Derived.Test.YtjibadlbiapcmaaDoorBRP12
import Derived.Test.YtjibadlbiapcmaaDoorBRP26
import Derived.Test.YtjibadlbiapcmaaDoorBRP30
import Derived.Test.YtjibadlbiapcmaaDoorBRP13
import Derived.Test.YtjibadlbiapcmaaDoorBRP28
import Derived.Test.YtjibadlbiapcmaaDoorBRP24
namespace Go.Proofs.YtjibadlbiapcmaaDoor.PX
open Go.RowKit Go.Proofs.YtjibadlbiapcmaaDoorW.PrintWords Go.Proofs.YtjibadlbiapcmaaDoorW.PrintLast Go.Proofs.YtjibadlbiapcmaaDoorW.PrintMore
attribute [local go_sem] max2_int min2_int max_two min_two max_three min_three max_four min_four   -- for this text's walks alone
set_option linter.unusedVariables false
set_option linter.unusedSimpArgs false

/-! ### laws_FnExactResolvePath: function 7 -/
def laws_FnExactResolvePath.j0 : Nat → List (S74) → ByteArray → Int → ByteArray → Bool → Int → Int → List (S80) → Int → Int → List (S80) → Option (Bool)
 | 0, _, _, _, _, _, _, _, _, _, _, _ => none
 | k + 1, x0, x1, x2, x3, x60, x754000, x754001, x754002, x763000, x763001, x763002 => if x60 = true then (some false) else ((laws_markEntriesResult.f k x763000 x763001 x763002 1).bind fun bt771 => ((laws_heldEntriesResult.f k x763000 x763001 bt771.2 1).bind fun t773 => (if t773 < 0 then (some false) else (if t773 = bt771.1 then ((laws_toEntryS.f k x0).bind fun t774 => ((impl_ResolvePath.f k t774 x1 x2 x3).bind fun bt777 => ((laws_eqEntriesResult.f k bt777.1 bt777.2.1 bt777.2.2 x754000 x754001 x754002).bind fun t783 => (if t783 = true then ((laws_heldEntriesResult.f k x763000 x763001 bt771.2 1).bind fun t784 => (if t784 < 0 then (some false) else (if t784 = bt771.1 then (some true) else (some false)))) else (some false))))) else (some false)))))
def laws_FnExactResolvePath.f (k : Nat) (l0 : List (S74)) (a1 : ByteArray) (a2 : Int) (a3 : ByteArray) : Option (Bool) := if (a1.size : Int) > 1048576 then (some true) else (if (a3.size : Int) > 1048576 then (some true) else ((laws_szEntryS.f k l0 1048576).bind fun t744 => (if t744 < 0 then (some true) else ((laws_toEntryS.f k l0).bind fun t745 => ((spec_ResolvePath.f k t745 a1 a2 a3).bind fun bt748 => ((laws_toEntryS.f k l0).bind fun t754 => ((impl_ResolvePath.f k t754 a1 a2 a3).bind fun bt757 => ((laws_eqEntriesResult.f k bt757.1 bt757.2.1 bt757.2.2 bt748.1 bt748.2.1 bt748.2.2).bind fun t763 => (if t763 = true then ((laws_toEntryS.f k l0).bind fun t764 => ((laws_eqEntryS.f k t754 t764).bind fun t767 => (if t767 = true then ((laws_markEntryS.f k t754 1).bind fun bt768 => (if bt768.1 < 0 then (laws_FnExactResolvePath.j0 k l0 a1 a2 a3 true bt748.1 bt748.2.1 bt748.2.2 bt757.1 bt757.2.1 bt757.2.2) else ((laws_eqEntriesResult.f k bt757.1 bt757.2.1 bt757.2.2 bt748.1 bt748.2.1 bt748.2.2).bind fun t770 => (laws_FnExactResolvePath.j0 k l0 a1 a2 a3 (!t770) bt748.1 bt748.2.1 bt748.2.2 bt757.1 bt757.2.1 bt757.2.2)))) else (some false)))) else (some false))))))))))
theorem laws_FnExactResolvePath.mono_l : ∀ k, (∀ y0 y1 y2 y3 y4 y5 y6 y7 y8 y9 y10, LeO (laws_FnExactResolvePath.j0 k y0 y1 y2 y3 y4 y5 y6 y7 y8 y9 y10) (laws_FnExactResolvePath.j0 (k + 1) y0 y1 y2 y3 y4 y5 y6 y7 y8 y9 y10))
 | 0 => fun _ _ _ _ _ _ _ _ _ _ _ r h => by simp [laws_FnExactResolvePath.j0] at h
 | k + 1 => by
  have ih0 := laws_FnExactResolvePath.mono_l k
  ·
   intro y0 y1 y2 y3 y4 y5 y6 y7 y8 y9 y10
   unfold laws_FnExactResolvePath.j0
   repeat' first
   | (with_reducible exact ih0 _ _ _ _ _ _ _ _ _ _ _)
   | (with_reducible exact impl_ResolvePath.mono _ _ _ _ _)
   | (with_reducible exact laws_eqEntriesResult.mono _ _ _ _ _ _ _)
   | (with_reducible exact laws_eqEntryS.mono _ _ _)
   | (with_reducible exact laws_heldEntriesResult.mono _ _ _ _ _)
   | (with_reducible exact laws_markEntriesResult.mono _ _ _ _ _)
   | (with_reducible exact laws_markEntryS.mono _ _ _)
   | (with_reducible exact laws_szEntryS.mono _ _ _)
   | (with_reducible exact laws_toEntryS.mono _ _)
   | (with_reducible exact spec_ResolvePath.mono _ _ _ _ _)
   | (with_reducible exact LeO.refl _)
   | (with_reducible exact LeO.none _)
   | (with_reducible refine LeO.ite ?_ ?_)
   | (with_reducible refine LeO.bind ?_ (fun _ => ?_))
   | exact ih0 _ _ _ _ _ _ _ _ _ _ _
   | exact impl_ResolvePath.mono _ _ _ _ _
   | exact laws_eqEntriesResult.mono _ _ _ _ _ _ _
   | exact laws_eqEntryS.mono _ _ _
   | exact laws_heldEntriesResult.mono _ _ _ _ _
   | exact laws_markEntriesResult.mono _ _ _ _ _
   | exact laws_markEntryS.mono _ _ _
   | exact laws_szEntryS.mono _ _ _
   | exact laws_toEntryS.mono _ _
   | exact spec_ResolvePath.mono _ _ _ _ _
   | exact LeO.none _
   | refine LeO.ite ?_ ?_
   | refine LeO.bind ?_ (fun _ => ?_)
theorem laws_FnExactResolvePath.mono : ∀ a0 a1 a2 a3 k, LeO (laws_FnExactResolvePath.f k a0 a1 a2 a3) (laws_FnExactResolvePath.f (k + 1) a0 a1 a2 a3) := by
 intro a0 a1 a2 a3 k
 have ih0 := laws_FnExactResolvePath.mono_l k
 unfold laws_FnExactResolvePath.f
 repeat' first
   | (with_reducible exact ih0 _ _ _ _ _ _ _ _ _ _ _)
   | (with_reducible exact impl_ResolvePath.mono _ _ _ _ _)
   | (with_reducible exact laws_eqEntriesResult.mono _ _ _ _ _ _ _)
   | (with_reducible exact laws_eqEntryS.mono _ _ _)
   | (with_reducible exact laws_heldEntriesResult.mono _ _ _ _ _)
   | (with_reducible exact laws_markEntriesResult.mono _ _ _ _ _)
   | (with_reducible exact laws_markEntryS.mono _ _ _)
   | (with_reducible exact laws_szEntryS.mono _ _ _)
   | (with_reducible exact laws_toEntryS.mono _ _)
   | (with_reducible exact spec_ResolvePath.mono _ _ _ _ _)
   | (with_reducible exact LeO.refl _)
   | (with_reducible exact LeO.none _)
   | (with_reducible refine LeO.ite ?_ ?_)
   | (with_reducible refine LeO.bind ?_ (fun _ => ?_))
   | exact ih0 _ _ _ _ _ _ _ _ _ _ _
   | exact impl_ResolvePath.mono _ _ _ _ _
   | exact laws_eqEntriesResult.mono _ _ _ _ _ _ _
   | exact laws_eqEntryS.mono _ _ _
   | exact laws_heldEntriesResult.mono _ _ _ _ _
   | exact laws_markEntriesResult.mono _ _ _ _ _
   | exact laws_markEntryS.mono _ _ _
   | exact laws_szEntryS.mono _ _ _
   | exact laws_toEntryS.mono _ _
   | exact spec_ResolvePath.mono _ _ _ _ _
   | exact LeO.none _
   | refine LeO.ite ?_ ?_
   | refine LeO.bind ?_ (fun _ => ?_)
set_option maxHeartbeats 8000000 in
set_option maxRecDepth 100000 in
theorem laws_FnExactResolvePath.calls (k : Nat) (A0 : Option Addr) (c0 : Nat) (l0 : List (S74)) (a1 : ByteArray) (a2 : Int) (a3 : ByteArray) (r : Bool) (w : World) (hr0 : Kd.C k74 w A0 l0.length l0) (hc0 : l0.length ≤ c0) (h : laws_FnExactResolvePath.f k l0 a1 a2 a3 = some r) (hT_ : r = true := by rfl) :
  Calls Tryd.prog 7 #[.slice A0 l0.length c0, .string a1, .int .i64 a2, .string a3] w fun e w' => e = .returned (.bool r) ∧ Below w.heap.size w w' := by
 have hu65 := Tryd.underlying65
 have HR0 := zK hr0
 have HC0 := zK hc0
 clear hr0 hc0
 have HB := zK (Below.refl w.heap.size w)
 have H : (if (a1.size : Int) > 1048576 then (some true) else (if (a3.size : Int) > 1048576 then (some true) else ((laws_szEntryS.f k l0 1048576).bind fun t744 => (if t744 < 0 then (some true) else ((laws_toEntryS.f k l0).bind fun t745 => ((spec_ResolvePath.f k t745 a1 a2 a3).bind fun bt748 => ((laws_toEntryS.f k l0).bind fun t754 => ((impl_ResolvePath.f k t754 a1 a2 a3).bind fun bt757 => ((laws_eqEntriesResult.f k bt757.1 bt757.2.1 bt757.2.2 bt748.1 bt748.2.1 bt748.2.2).bind fun t763 => (if t763 = true then ((laws_toEntryS.f k l0).bind fun t764 => ((laws_eqEntryS.f k t754 t764).bind fun t767 => (if t767 = true then ((laws_markEntryS.f k t754 1).bind fun bt768 => (if bt768.1 < 0 then (laws_FnExactResolvePath.j0 k l0 a1 a2 a3 true bt748.1 bt748.2.1 bt748.2.2 bt757.1 bt757.2.1 bt757.2.2) else ((laws_eqEntriesResult.f k bt757.1 bt757.2.1 bt757.2.2 bt748.1 bt748.2.1 bt748.2.2).bind fun t770 => (laws_FnExactResolvePath.j0 k l0 a1 a2 a3 (!t770) bt748.1 bt748.2.1 bt748.2.2 bt757.1 bt757.2.1 bt757.2.2)))) else (some false)))) else (some false))))))))))) = some r := h
 clear h
 by_cases c5 : (a1.size : Int) > 1048576
 ·
  rw [if_pos c5] at H
  have c5b0 : decide (1048576 < (a1.size : Int)) = true := decide_eq_true c5
  have c5b1 : decide (1048576 < a1.size) = true := decide_eq_true (by omega)
  clear c5
  obtain rfl := Option.some.inj H
  go_enter Tryd.func7, Tryd.ntmps7
  go_wp2
  go_ret
  exact ⟨by first | rfl | (simp [errW_none, errW_some] <;> rfl) | (simp [*, errW_none, errW_some] <;> rfl), by repeat (first | (with_reducible first | exact HB.out | apply zA | apply zN | apply zD) | exact HB.out)⟩
 ·
  rw [if_neg c5] at H
  have c5b0 : decide (1048576 < (a1.size : Int)) = false := decide_eq_false c5
  have c5b1 : decide (1048576 < a1.size) = false := decide_eq_false (by omega)
  clear c5
  by_cases c6 : (a3.size : Int) > 1048576
  ·
   rw [if_pos c6] at H
   have c6b0 : decide (1048576 < (a3.size : Int)) = true := decide_eq_true c6
   have c6b1 : decide (1048576 < a3.size) = true := decide_eq_true (by omega)
   clear c6
   obtain rfl := Option.some.inj H
   go_enter Tryd.func7, Tryd.ntmps7
   go_wp2
   go_ret
   exact ⟨by first | rfl | (simp [errW_none, errW_some] <;> rfl) | (simp [*, errW_none, errW_some] <;> rfl), by repeat (first | (with_reducible first | exact HB.out | apply zA | apply zN | apply zD) | exact HB.out)⟩
  ·
   rw [if_neg c6] at H
   have c6b0 : decide (1048576 < (a3.size : Int)) = false := decide_eq_false c6
   have c6b1 : decide (1048576 < a3.size) = false := decide_eq_false (by omega)
   clear c6
   replace H := Option.bind_eq_some_iff.mp H
   obtain ⟨t744, A70, H⟩ := H
   replace H : (if t744 < 0 then (some true) else ((laws_toEntryS.f k l0).bind fun t745 => ((spec_ResolvePath.f k t745 a1 a2 a3).bind fun bt748 => ((laws_toEntryS.f k l0).bind fun t754 => ((impl_ResolvePath.f k t754 a1 a2 a3).bind fun bt757 => ((laws_eqEntriesResult.f k bt757.1 bt757.2.1 bt757.2.2 bt748.1 bt748.2.1 bt748.2.2).bind fun t763 => (if t763 = true then ((laws_toEntryS.f k l0).bind fun t764 => ((laws_eqEntryS.f k t754 t764).bind fun t767 => (if t767 = true then ((laws_markEntryS.f k t754 1).bind fun bt768 => (if bt768.1 < 0 then (laws_FnExactResolvePath.j0 k l0 a1 a2 a3 true bt748.1 bt748.2.1 bt748.2.2 bt757.1 bt757.2.1 bt757.2.2) else ((laws_eqEntriesResult.f k bt757.1 bt757.2.1 bt757.2.2 bt748.1 bt748.2.1 bt748.2.2).bind fun t770 => (laws_FnExactResolvePath.j0 k l0 a1 a2 a3 (!t770) bt748.1 bt748.2.1 bt748.2.2 bt757.1 bt757.2.1 bt757.2.2)))) else (some false)))) else (some false)))))))) = some r := H
   have A7 := zK A70
   clear A70
   by_cases c8 : t744 < 0
   ·
    rw [if_pos c8] at H
    have c8b0 : decide (t744 < 0) = true := decide_eq_true c8
    clear c8
    obtain rfl := Option.some.inj H
    go_enter Tryd.func7, Tryd.ntmps7
    go_wp2_with (first | ((with_reducible refine gate_callee (f := 9) rfl ?_); refine goesL_ (some 25) rfl rfl Tryd.func9 (by kernel_rfl) rfl #[.slice A0 l0.length c0, .int .i64 1048576] rfl (by (try simp only [List.map_toArray, List.map_cons, List.map_nil]); first | done | rfl | (simp only [List.length_drop, List.length_take]; rfl)) ?_; (with_reducible refine (laws_szEntryS.calls k _ _ l0 1048576 t744 _ ?side1 ?side2 A7.out).mono ?_); (case side1 => repeat (first | exact HR0.out | (with_reducible refine Kd.C_alloc ?_ _) | (with_reducible refine Kd.C_drewN ?_ _) | (with_reducible refine Kd.C_drew ?_))); (case side2 => exact HC0.out); rintro e w9 ⟨rfl, hb⟩; refine ⟨_, rfl, ?_⟩; have n0_ := zK (below_step (by repeat (first | (with_reducible first | exact HB.out | apply zA | apply zN | apply zD) | exact HB.out)) hb); clear HB; have HB := n0_; clear n0_; (try clear hb); (try clear hb2); (try clear hk); (try clear hi)))
    go_ret
    exact ⟨by first | rfl | (simp [errW_none, errW_some] <;> rfl) | (simp [*, errW_none, errW_some] <;> rfl), by repeat (first | (with_reducible first | exact HB.out | apply zA | apply zN | apply zD) | exact HB.out)⟩
   ·
    rw [if_neg c8] at H
    have c8b0 : decide (t744 < 0) = false := decide_eq_false c8
    clear c8
    replace H := Option.bind_eq_some_iff.mp H
    obtain ⟨t745, A100, H⟩ := H
    replace H : ((spec_ResolvePath.f k t745 a1 a2 a3).bind fun bt748 => ((laws_toEntryS.f k l0).bind fun t754 => ((impl_ResolvePath.f k t754 a1 a2 a3).bind fun bt757 => ((laws_eqEntriesResult.f k bt757.1 bt757.2.1 bt757.2.2 bt748.1 bt748.2.1 bt748.2.2).bind fun t763 => (if t763 = true then ((laws_toEntryS.f k l0).bind fun t764 => ((laws_eqEntryS.f k t754 t764).bind fun t767 => (if t767 = true then ((laws_markEntryS.f k t754 1).bind fun bt768 => (if bt768.1 < 0 then (laws_FnExactResolvePath.j0 k l0 a1 a2 a3 true bt748.1 bt748.2.1 bt748.2.2 bt757.1 bt757.2.1 bt757.2.2) else ((laws_eqEntriesResult.f k bt757.1 bt757.2.1 bt757.2.2 bt748.1 bt748.2.1 bt748.2.2).bind fun t770 => (laws_FnExactResolvePath.j0 k l0 a1 a2 a3 (!t770) bt748.1 bt748.2.1 bt748.2.2 bt757.1 bt757.2.1 bt757.2.2)))) else (some false)))) else (some false)))))) = some r := H
    have A10 := zK A100
    clear A100
    replace H := Option.bind_eq_some_iff.mp H
    obtain ⟨⟨t748, t749, t750⟩, A110, H⟩ := H
    replace H : ((laws_toEntryS.f k l0).bind fun t754 => ((impl_ResolvePath.f k t754 a1 a2 a3).bind fun bt757 => ((laws_eqEntriesResult.f k bt757.1 bt757.2.1 bt757.2.2 t748 t749 t750).bind fun t763 => (if t763 = true then ((laws_toEntryS.f k l0).bind fun t764 => ((laws_eqEntryS.f k t754 t764).bind fun t767 => (if t767 = true then ((laws_markEntryS.f k t754 1).bind fun bt768 => (if bt768.1 < 0 then (laws_FnExactResolvePath.j0 k l0 a1 a2 a3 true t748 t749 t750 bt757.1 bt757.2.1 bt757.2.2) else ((laws_eqEntriesResult.f k bt757.1 bt757.2.1 bt757.2.2 t748 t749 t750).bind fun t770 => (laws_FnExactResolvePath.j0 k l0 a1 a2 a3 (!t770) t748 t749 t750 bt757.1 bt757.2.1 bt757.2.2)))) else (some false)))) else (some false))))) = some r := H
    have A11 := zK A110
    clear A110
    replace H := Option.bind_eq_some_iff.mp H
    obtain ⟨t754, A120, H⟩ := H
    replace H : ((impl_ResolvePath.f k t754 a1 a2 a3).bind fun bt757 => ((laws_eqEntriesResult.f k bt757.1 bt757.2.1 bt757.2.2 t748 t749 t750).bind fun t763 => (if t763 = true then ((laws_toEntryS.f k l0).bind fun t764 => ((laws_eqEntryS.f k t754 t764).bind fun t767 => (if t767 = true then ((laws_markEntryS.f k t754 1).bind fun bt768 => (if bt768.1 < 0 then (laws_FnExactResolvePath.j0 k l0 a1 a2 a3 true t748 t749 t750 bt757.1 bt757.2.1 bt757.2.2) else ((laws_eqEntriesResult.f k bt757.1 bt757.2.1 bt757.2.2 t748 t749 t750).bind fun t770 => (laws_FnExactResolvePath.j0 k l0 a1 a2 a3 (!t770) t748 t749 t750 bt757.1 bt757.2.1 bt757.2.2)))) else (some false)))) else (some false)))) = some r := H
    have A12 := zK A120
    clear A120
    replace H := Option.bind_eq_some_iff.mp H
    obtain ⟨⟨t757, t758, t759⟩, A130, H⟩ := H
    replace H : ((laws_eqEntriesResult.f k t757 t758 t759 t748 t749 t750).bind fun t763 => (if t763 = true then ((laws_toEntryS.f k l0).bind fun t764 => ((laws_eqEntryS.f k t754 t764).bind fun t767 => (if t767 = true then ((laws_markEntryS.f k t754 1).bind fun bt768 => (if bt768.1 < 0 then (laws_FnExactResolvePath.j0 k l0 a1 a2 a3 true t748 t749 t750 t757 t758 t759) else ((laws_eqEntriesResult.f k t757 t758 t759 t748 t749 t750).bind fun t770 => (laws_FnExactResolvePath.j0 k l0 a1 a2 a3 (!t770) t748 t749 t750 t757 t758 t759)))) else (some false)))) else (some false))) = some r := H
    have A13 := zK A130
    clear A130
    replace H := Option.bind_eq_some_iff.mp H
    obtain ⟨t763, A140, H⟩ := H
    replace H : (if t763 = true then ((laws_toEntryS.f k l0).bind fun t764 => ((laws_eqEntryS.f k t754 t764).bind fun t767 => (if t767 = true then ((laws_markEntryS.f k t754 1).bind fun bt768 => (if bt768.1 < 0 then (laws_FnExactResolvePath.j0 k l0 a1 a2 a3 true t748 t749 t750 t757 t758 t759) else ((laws_eqEntriesResult.f k t757 t758 t759 t748 t749 t750).bind fun t770 => (laws_FnExactResolvePath.j0 k l0 a1 a2 a3 (!t770) t748 t749 t750 t757 t758 t759)))) else (some false)))) else (some false)) = some r := H
    have A14 := zK A140
    clear A140
    by_cases c15 : t763 = true
    ·
     subst c15
     have H1 : ((laws_toEntryS.f k l0).bind fun t764 => ((laws_eqEntryS.f k t754 t764).bind fun t767 => (if t767 = true then ((laws_markEntryS.f k t754 1).bind fun bt768 => (if bt768.1 < 0 then (laws_FnExactResolvePath.j0 k l0 a1 a2 a3 true t748 t749 t750 t757 t758 t759) else ((laws_eqEntriesResult.f k t757 t758 t759 t748 t749 t750).bind fun t770 => (laws_FnExactResolvePath.j0 k l0 a1 a2 a3 (!t770) t748 t749 t750 t757 t758 t759)))) else (some false)))) = some r := by rw [if_pos rfl] at H; exact H
     clear H
     have H := H1
     clear H1
     replace H := Option.bind_eq_some_iff.mp H
     obtain ⟨t764, A160, H⟩ := H
     replace H : ((laws_eqEntryS.f k t754 t764).bind fun t767 => (if t767 = true then ((laws_markEntryS.f k t754 1).bind fun bt768 => (if bt768.1 < 0 then (laws_FnExactResolvePath.j0 k l0 a1 a2 a3 true t748 t749 t750 t757 t758 t759) else ((laws_eqEntriesResult.f k t757 t758 t759 t748 t749 t750).bind fun t770 => (laws_FnExactResolvePath.j0 k l0 a1 a2 a3 (!t770) t748 t749 t750 t757 t758 t759)))) else (some false))) = some r := H
     have A16 := zK A160
     clear A160
     replace H := Option.bind_eq_some_iff.mp H
     obtain ⟨t767, A170, H⟩ := H
     replace H : (if t767 = true then ((laws_markEntryS.f k t754 1).bind fun bt768 => (if bt768.1 < 0 then (laws_FnExactResolvePath.j0 k l0 a1 a2 a3 true t748 t749 t750 t757 t758 t759) else ((laws_eqEntriesResult.f k t757 t758 t759 t748 t749 t750).bind fun t770 => (laws_FnExactResolvePath.j0 k l0 a1 a2 a3 (!t770) t748 t749 t750 t757 t758 t759)))) else (some false)) = some r := H
     have A17 := zK A170
     clear A170
     by_cases c18 : t767 = true
     ·
      subst c18
      have H1 : ((laws_markEntryS.f k t754 1).bind fun bt768 => (if bt768.1 < 0 then (laws_FnExactResolvePath.j0 k l0 a1 a2 a3 true t748 t749 t750 t757 t758 t759) else ((laws_eqEntriesResult.f k t757 t758 t759 t748 t749 t750).bind fun t770 => (laws_FnExactResolvePath.j0 k l0 a1 a2 a3 (!t770) t748 t749 t750 t757 t758 t759)))) = some r := by rw [if_pos rfl] at H; exact H
      clear H
      have H := H1
      clear H1
      replace H := Option.bind_eq_some_iff.mp H
      obtain ⟨⟨t768, t769⟩, A190, H⟩ := H
      replace H : (if t768 < 0 then (laws_FnExactResolvePath.j0 k l0 a1 a2 a3 true t748 t749 t750 t757 t758 t759) else ((laws_eqEntriesResult.f k t757 t758 t759 t748 t749 t750).bind fun t770 => (laws_FnExactResolvePath.j0 k l0 a1 a2 a3 (!t770) t748 t749 t750 t757 t758 t759))) = some r := H
      have A19 := zK A190
      clear A190
      have HC20 := zK H
      clear H
      go_enter Tryd.func7, Tryd.ntmps7
      go_upto_region 18 with (first | ((with_reducible refine gate_callee (f := 9) rfl ?_); refine goesL_ (some 25) rfl rfl Tryd.func9 (by kernel_rfl) rfl #[.slice A0 l0.length c0, .int .i64 1048576] rfl (by (try simp only [List.map_toArray, List.map_cons, List.map_nil]); first | done | rfl | (simp only [List.length_drop, List.length_take]; rfl)) ?_; (with_reducible refine (laws_szEntryS.calls k _ _ l0 1048576 t744 _ ?side1 ?side2 A7.out).mono ?_); (case side1 => repeat (first | exact HR0.out | (with_reducible refine Kd.C_alloc ?_ _) | (with_reducible refine Kd.C_drewN ?_ _) | (with_reducible refine Kd.C_drew ?_))); (case side2 => exact HC0.out); rintro e w21 ⟨rfl, hb⟩; refine ⟨_, rfl, ?_⟩; have n0_ := zK (below_step (by repeat (first | (with_reducible first | exact HB.out | apply zA | apply zN | apply zD) | exact HB.out)) hb); clear HB; have HB := n0_; clear n0_; (try clear hb); (try clear hb2); (try clear hk); (try clear hi)) | ((with_reducible refine gate_callee (f := 11) rfl ?_); refine goesL_ (some 29) rfl rfl Tryd.func11 (by kernel_rfl) rfl #[.slice A0 l0.length c0] rfl (by (try simp only [List.map_toArray, List.map_cons, List.map_nil]); first | done | rfl | (simp only [List.length_drop, List.length_take]; rfl)) ?_; (with_reducible refine (laws_toEntryS.calls k _ _ l0 t745 _ ?side1 ?side2 A10.out).mono ?_); (case side1 => repeat (first | exact (Kd.C_below HR0.out HB.out) | (with_reducible refine Kd.C_alloc ?_ _) | (with_reducible refine Kd.C_drewN ?_ _) | (with_reducible refine Kd.C_drew ?_))); (case side2 => exact HC0.out); rintro e w22 ⟨v746, rfl, ho0, hb⟩; refine ⟨_, rfl, ?_⟩; have n0_ := zK (Kd.R_lower ho0 (below_size (by repeat (first | (with_reducible first | exact HB.out | apply zA | apply zN | apply zD) | exact HB.out)))); have n1_ := zK (below_step (by repeat (first | (with_reducible first | exact HB.out | apply zA | apply zN | apply zD) | exact HB.out)) hb); clear HB; have HO747 := n0_; have HB := n1_; clear n0_ n1_; (try clear hb); (try clear hb2); (try clear hk); (try clear hi); (try clear ho0); obtain ⟨Ao23, co23, eo23⟩ := Kd.R_slice HO747.out; subst eo23) | ((with_reducible refine gate_callee (f := 40) rfl ?_); refine goesL_ (some 33) rfl rfl Tryd.func40 (by kernel_rfl) rfl #[.slice Ao23 t745.length co23, .string a1, .int .i64 a2, .string a3] rfl (by (try simp only [List.map_toArray, List.map_cons, List.map_nil]); first | done | rfl | (simp only [List.length_drop, List.length_take]; rfl)) ?_; (with_reducible refine (spec_ResolvePath.calls k _ _ t745 a1 a2 a3 t748 t749 t750 _ ?side1 ?side2 A11.out).mono ?_); (case side1 => repeat (first | exact (Kd.R_reads' HO747.out).2.2 | (with_reducible refine Kd.C_alloc ?_ _) | (with_reducible refine Kd.C_drewN ?_ _) | (with_reducible refine Kd.C_drew ?_))); (case side2 => exact (Kd.R_reads' HO747.out).2.1); rintro e w24 ⟨v751, rfl, ho0, hb⟩; refine ⟨_, rfl, ?_⟩; have n0_ := zK (Kd.R_elder' (by (with_reducible repeat (first | apply zR | apply zV | apply zW)); exact HO747.out) (Kd.R_base ho0) hb); have n1_ := zK (Kd.R_lower (Kd.R_new' ho0 (Kd.R_lt (by (with_reducible repeat (first | apply zR | apply zV | apply zW)); exact HO747.out))) (below_size (by repeat (first | (with_reducible first | exact HB.out | apply zA | apply zN | apply zD) | exact HB.out)))); have n2_ := zK (below_step (by repeat (first | (with_reducible first | exact HB.out | apply zA | apply zN | apply zD) | exact HB.out)) hb); clear HO747; clear HB; have HO747 := n0_; have HO752 := n1_; have HB := n2_; clear n0_ n1_ n2_; (try clear hb); (try clear hb2); (try clear hk); (try clear hi); (try clear ho0)) | ((with_reducible refine gate_dst (N := 10) rfl ?_); refine box_event ?hg (N := 10) ?hd (cs := #[.int .i64 0, .int .i64 0, .slice none 0 0]) (t := 65) ?hr ?_; (case hd => rfl); (case hg => rfl); (case hr => first | (go_simp; done) | (go_simp; rfl)); intro gb753 hg w25 hbox hb; have n0_ := zK (Kd.R_below (by (with_reducible repeat (first | apply zR | apply zV | apply zW)); exact HO747.out) hb); have n1_ := zK (Kd.R_below (by (with_reducible repeat (first | apply zR | apply zV | apply zW)); exact HO752.out) hb); have n2_ := zK (below_step (by repeat (first | (with_reducible first | exact HB.out | apply zA | apply zN | apply zD) | exact HB.out)) hb); have n3_ := zK (hbox); have n4_ := zK ((by rw [hg]; exact (below_size (by repeat (first | (with_reducible first | exact HB.out | apply zA | apply zN | apply zD) | exact HB.out))) : w.heap.size ≤ gb753)); have n5_ := zK ((by rw [hg]; exact (below_size (by repeat (first | (with_reducible first | exact HB.out | apply zA | apply zN | apply zD) | exact HB.out))) : w.heap.size ≤ gb753)); clear HO747; clear HO752; clear HB; have HO747 := n0_; have HO752 := n1_; have HB := n2_; have BK753 := n3_; have GW753 := n4_; have GE753 := n5_; clear n0_ n1_ n2_ n3_ n4_ n5_; clear hb hbox hg; have hcz26_0 : w25.cell? ⟨gb753, 0, none⟩ = some (.int .i64 0) := (blk_cell BK753.out 0).trans rfl; have hcz26_1 : w25.cell? ⟨gb753, 1, none⟩ = some (.int .i64 0) := (blk_cell BK753.out 1).trans rfl; have hcz26_2 : w25.cell? ⟨gb753, 2, none⟩ = some (.slice none 0 0) := (blk_cell BK753.out 2).trans rfl; have hfz26_0 := blk_frozen BK753.out 0; have hfz26_1 := blk_frozen BK753.out 1; have hfz26_2 := blk_frozen BK753.out 2; obtain ⟨Ao27, co27, eo27⟩ := Kd.R_slice HO752.out; subst eo27) | ((with_reducible refine gate_callee (f := 11) rfl ?_); refine goesL_ (some 35) rfl rfl Tryd.func11 (by kernel_rfl) rfl #[.slice A0 l0.length c0] rfl (by (try simp only [List.map_toArray, List.map_cons, List.map_nil]); first | done | rfl | (simp only [List.length_drop, List.length_take]; rfl)) ?_; (with_reducible refine (laws_toEntryS.calls k _ _ l0 t754 _ ?side1 ?side2 A12.out).mono ?_); (case side1 => exact Kd.C_below HR0.out (by repeat (first | (with_reducible first | exact HB.out | apply zA | apply zN | apply zD | refine below_set ?_ GE753.out) | exact HB.out))); (case side2 => exact HC0.out); rintro e w28 ⟨v755, rfl, ho0, hb⟩; refine ⟨_, rfl, ?_⟩; have n0_ := zK (Kd.R_elder' (by (with_reducible repeat (first | apply zR | apply zV | apply zW)); exact (Kd.R_mono (Kd.R_far (p := ⟨gb753, 2, none⟩) (Kd.R_far (p := ⟨gb753, 1, none⟩) (Kd.R_far (p := ⟨gb753, 0, none⟩) (Kd.R_types HO747.out BK753.out (by decide)) (fun _ hk => hk.2) (.int .i64 t748)) (fun _ hk => hk.2) (.int .i64 t749)) (fun _ hk => hk.2) (.slice Ao27 t750.length co27)) (fun _ h_ => h_.1))) (Kd.R_base ho0) hb); have n1_ := zK (Kd.R_elder' (by (with_reducible repeat (first | apply zR | apply zV | apply zW)); exact (Kd.R_mono (Kd.R_far (p := ⟨gb753, 2, none⟩) (Kd.R_far (p := ⟨gb753, 1, none⟩) (Kd.R_far (p := ⟨gb753, 0, none⟩) (Kd.R_types HO752.out BK753.out (by decide)) (fun _ hk => hk.2) (.int .i64 t748)) (fun _ hk => hk.2) (.int .i64 t749)) (fun _ hk => hk.2) (.slice Ao27 t750.length co27)) (fun _ h_ => h_.1))) (Kd.R_base ho0) hb); have n2_ := zK (Kd.R_lower (Kd.R_new' (Kd.R_new' ho0 (Kd.R_lt (by (with_reducible repeat (first | apply zR | apply zV | apply zW)); exact (Kd.R_mono (Kd.R_far (p := ⟨gb753, 2, none⟩) (Kd.R_far (p := ⟨gb753, 1, none⟩) (Kd.R_far (p := ⟨gb753, 0, none⟩) (Kd.R_types HO747.out BK753.out (by decide)) (fun _ hk => hk.2) (.int .i64 t748)) (fun _ hk => hk.2) (.int .i64 t749)) (fun _ hk => hk.2) (.slice Ao27 t750.length co27)) (fun _ h_ => h_.1))))) (Kd.R_lt (by (with_reducible repeat (first | apply zR | apply zV | apply zW)); exact (Kd.R_mono (Kd.R_far (p := ⟨gb753, 2, none⟩) (Kd.R_far (p := ⟨gb753, 1, none⟩) (Kd.R_far (p := ⟨gb753, 0, none⟩) (Kd.R_types HO752.out BK753.out (by decide)) (fun _ hk => hk.2) (.int .i64 t748)) (fun _ hk => hk.2) (.int .i64 t749)) (fun _ hk => hk.2) (.slice Ao27 t750.length co27)) (fun _ h_ => h_.1))))) (below_size (by repeat (first | (with_reducible first | exact HB.out | apply zA | apply zN | apply zD | refine below_set ?_ GE753.out) | exact HB.out)))); have n3_ := zK (blk_below (g := gb753) (o := .cells #[.int .i64 t748, .int .i64 t749, .slice Ao27 t750.length co27] 65 (0, 0)) (by (with_reducible repeat (first | refine zM ?_ _ | refine zP ?_ | refine zQ ?_ _)); refine blk_put (cs := #[.int .i64 t748, .int .i64 t749, .slice none 0 0]) ?_ 2 _ rfl; (with_reducible repeat (first | refine zM ?_ _ | refine zP ?_ | refine zQ ?_ _)); refine blk_put (cs := #[.int .i64 t748, .int .i64 0, .slice none 0 0]) ?_ 1 _ rfl; (with_reducible repeat (first | refine zM ?_ _ | refine zP ?_ | refine zQ ?_ _)); refine blk_put (cs := #[.int .i64 0, .int .i64 0, .slice none 0 0]) ?_ 0 _ rfl; (with_reducible repeat (first | refine zM ?_ _ | refine zP ?_ | refine zQ ?_ _)); exact BK753.out) hb); have n4_ := zK (below_step (by repeat (first | (with_reducible first | exact HB.out | apply zA | apply zN | apply zD | refine below_set ?_ GE753.out) | exact HB.out)) hb); clear HO747; clear HO752; clear BK753; clear HB; have HO747 := n0_; have HO752 := n1_; have HO756 := n2_; have BK753 := n3_; have HB := n4_; clear n0_ n1_ n2_ n3_ n4_; (try clear hb); (try clear hb2); (try clear hk); (try clear hi); (try clear ho0); obtain ⟨Ao29, co29, eo29⟩ := Kd.R_slice HO756.out; subst eo29) | ((with_reducible refine gate_callee (f := 41) rfl ?_); refine goesL_ (some 40) rfl rfl Tryd.func41 (by kernel_rfl) rfl #[.slice Ao29 t754.length co29, .string a1, .int .i64 a2, .string a3] rfl (by (try simp only [List.map_toArray, List.map_cons, List.map_nil]); first | done | rfl | (simp only [List.length_drop, List.length_take]; rfl)) ?_; (with_reducible refine (impl_ResolvePath.calls k _ _ t754 a1 a2 a3 t757 t758 t759 _ ?side1 ?side2 A13.out).mono ?_); (case side1 => repeat (first | exact (Kd.R_reads' HO756.out).2.2 | (with_reducible refine Kd.C_alloc ?_ _) | (with_reducible refine Kd.C_drewN ?_ _) | (with_reducible refine Kd.C_drew ?_))); (case side2 => exact (Kd.R_reads' HO756.out).2.1); rintro e w30 ⟨v760, rfl, ho0, hb⟩; refine ⟨_, rfl, ?_⟩; have n0_ := zK (Kd.R_elder' (by (with_reducible repeat (first | apply zR | apply zV | apply zW)); exact HO747.out) (Kd.R_base ho0) hb); have n1_ := zK (Kd.R_elder' (by (with_reducible repeat (first | apply zR | apply zV | apply zW)); exact HO752.out) (Kd.R_base ho0) hb); have n2_ := zK (Kd.R_elder' (by (with_reducible repeat (first | apply zR | apply zV | apply zW)); exact HO756.out) (Kd.R_base ho0) hb); have n3_ := zK (Kd.R_lower (Kd.R_new' (Kd.R_new' (Kd.R_new' ho0 (Kd.R_lt (by (with_reducible repeat (first | apply zR | apply zV | apply zW)); exact HO747.out))) (Kd.R_lt (by (with_reducible repeat (first | apply zR | apply zV | apply zW)); exact HO752.out))) (Kd.R_lt (by (with_reducible repeat (first | apply zR | apply zV | apply zW)); exact HO756.out))) (below_size (by repeat (first | (with_reducible first | exact HB.out | apply zA | apply zN | apply zD | refine below_set ?_ GE753.out) | exact HB.out)))); have n4_ := zK (blk_below (g := gb753) (o := .cells #[.int .i64 t748, .int .i64 t749, .slice Ao27 t750.length co27] 65 (0, 0)) (by (with_reducible repeat (first | refine zM ?_ _ | refine zP ?_ | refine zQ ?_ _)); exact BK753.out) hb); have n5_ := zK (below_step (by repeat (first | (with_reducible first | exact HB.out | apply zA | apply zN | apply zD | refine below_set ?_ GE753.out) | exact HB.out)) hb); clear HO747; clear HO752; clear HO756; clear BK753; clear HB; have HO747 := n0_; have HO752 := n1_; have HO756 := n2_; have HO761 := n3_; have BK753 := n4_; have HB := n5_; clear n0_ n1_ n2_ n3_ n4_ n5_; (try clear hb); (try clear hb2); (try clear hk); (try clear hi); (try clear ho0)) | ((with_reducible refine gate_dst (N := 12) rfl ?_); refine box_event ?hg (N := 12) ?hd (cs := #[.int .i64 0, .int .i64 0, .slice none 0 0]) (t := 65) ?hr ?_; (case hd => rfl); (case hg => rfl); (case hr => first | (go_simp; done) | (go_simp; rfl)); intro gb762 hg w31 hbox hb; have n0_ := zK (Kd.R_below (by (with_reducible repeat (first | apply zR | apply zV | apply zW)); exact HO747.out) hb); have n1_ := zK (Kd.R_below (by (with_reducible repeat (first | apply zR | apply zV | apply zW)); exact HO752.out) hb); have n2_ := zK (Kd.R_below (by (with_reducible repeat (first | apply zR | apply zV | apply zW)); exact HO756.out) hb); have n3_ := zK (Kd.R_below (by (with_reducible repeat (first | apply zR | apply zV | apply zW)); exact HO761.out) hb); have n4_ := zK (blk_below (g := gb753) (o := .cells #[.int .i64 t748, .int .i64 t749, .slice Ao27 t750.length co27] 65 (0, 0)) (by (with_reducible repeat (first | refine zM ?_ _ | refine zP ?_ | refine zQ ?_ _)); exact BK753.out) hb); have n5_ := zK (below_step (by repeat (first | (with_reducible first | exact HB.out | apply zA | apply zN | apply zD | refine below_set ?_ GE753.out) | exact HB.out)) hb); have n6_ := zK (hbox); have n7_ := zK ((by rw [hg]; exact (below_size (by repeat (first | (with_reducible first | exact HB.out | apply zA | apply zN | apply zD | refine below_set ?_ GE753.out) | exact HB.out))) : w.heap.size ≤ gb762)); have n8_ := zK ((by rw [hg]; exact (below_size (by repeat (first | (with_reducible first | exact HB.out | apply zA | apply zN | apply zD | refine below_set ?_ GE753.out) | exact HB.out))) : w.heap.size ≤ gb762)); have n9_ := zK ((by rw [hg]; exact Nat.ne_of_lt (blk_lt (g := gb753) (o := .cells #[.int .i64 t748, .int .i64 t749, .slice Ao27 t750.length co27] 65 (0, 0)) (by (with_reducible repeat (first | refine zM ?_ _ | refine zP ?_ | refine zQ ?_ _)); exact BK753.out)) : gb753 ≠ gb762)); have n10_ := zK ((by rw [hg]; exact Nat.ne_of_gt (blk_lt (g := gb753) (o := .cells #[.int .i64 t748, .int .i64 t749, .slice Ao27 t750.length co27] 65 (0, 0)) (by (with_reducible repeat (first | refine zM ?_ _ | refine zP ?_ | refine zQ ?_ _)); exact BK753.out)) : gb762 ≠ gb753)); clear HO747; clear HO752; clear HO756; clear HO761; clear BK753; clear HB; have HO747 := n0_; have HO752 := n1_; have HO756 := n2_; have HO761 := n3_; have BK753 := n4_; have HB := n5_; have BK762 := n6_; have GW762 := n7_; have GE762 := n8_; have NB753_762 := n9_; have NB762_753 := n10_; clear n0_ n1_ n2_ n3_ n4_ n5_ n6_ n7_ n8_ n9_ n10_; clear hb hbox hg; have hnb32 := NB762_753.out; have hnc32 := NB753_762.out; have hcz33_0 : w31.cell? ⟨gb762, 0, none⟩ = some (.int .i64 0) := (blk_cell BK762.out 0).trans rfl; have hcz33_1 : w31.cell? ⟨gb762, 1, none⟩ = some (.int .i64 0) := (blk_cell BK762.out 1).trans rfl; have hcz33_2 : w31.cell? ⟨gb762, 2, none⟩ = some (.slice none 0 0) := (blk_cell BK762.out 2).trans rfl; have hfz33_0 := blk_frozen BK762.out 0; have hfz33_1 := blk_frozen BK762.out 1; have hfz33_2 := blk_frozen BK762.out 2; obtain ⟨Ao34, co34, eo34⟩ := Kd.R_slice HO761.out; subst eo34; have hcz35_0 : w31.cell? ⟨gb753, 0, none⟩ = some (.int .i64 t748) := (blk_cell BK753.out 0).trans rfl; have hcz35_1 : w31.cell? ⟨gb753, 1, none⟩ = some (.int .i64 t749) := (blk_cell BK753.out 1).trans rfl; have hcz35_2 : w31.cell? ⟨gb753, 2, none⟩ = some (.slice Ao27 t750.length co27) := (blk_cell BK753.out 2).trans rfl; have hfz35_0 := blk_frozen BK753.out 0; have hfz35_1 := blk_frozen BK753.out 1; have hfz35_2 := blk_frozen BK753.out 2) | ((with_reducible refine gate_callee (f := 42) rfl ?_); refine goesL_ (some 43) rfl rfl Tryd.func42 (by kernel_rfl) rfl #[.agg #[.int .i64 t757, .int .i64 t758, .slice Ao34 t759.length co34], .agg #[.int .i64 t748, .int .i64 t749, .slice Ao27 t750.length co27]] rfl (by (try simp only [List.map_toArray, List.map_cons, List.map_nil]); first | done | rfl | (simp only [List.length_drop, List.length_take]; rfl)) ?_; (with_reducible refine (laws_eqEntriesResult.calls k t757 t758 _ _ t759 t748 t749 _ _ t750 true _ ?side1 ?side2 ?side3 ?side4 A14.out).mono ?_); (case side1 => refine (Kd.R_reads' (e := 80) (base := w.heap.size) (ok := fun k_ => (((True ∧ some k_ ≠ (.slice Ao23 t745.length co23 : Value).ownBlock) ∧ some k_ ≠ (.slice Ao27 t750.length co27 : Value).ownBlock) ∧ some k_ ≠ (.slice Ao29 t754.length co29 : Value).ownBlock)) (n := t759.length) (c := co34) ?_).2.2; exact (by (with_reducible repeat (first | apply zR | apply zV | apply zW)); exact (Kd.R_mono (Kd.R_far (p := ⟨gb762, 2, none⟩) (Kd.R_far (p := ⟨gb762, 1, none⟩) (Kd.R_far (p := ⟨gb762, 0, none⟩) (Kd.R_types HO761.out BK762.out (by decide)) (fun _ hk => hk.2) (.int .i64 t757)) (fun _ hk => hk.2) (.int .i64 t758)) (fun _ hk => hk.2) (.slice Ao34 t759.length co34)) (fun _ h_ => h_.1)))); (case side2 => exact (Kd.R_reads' HO761.out).2.1); (case side3 => refine (Kd.R_reads' (e := 80) (base := w.heap.size) (ok := fun k_ => (((True ∧ some k_ ≠ (.slice Ao23 t745.length co23 : Value).ownBlock) ∧ some k_ ≠ (.slice Ao29 t754.length co29 : Value).ownBlock) ∧ some k_ ≠ (.slice Ao34 t759.length co34 : Value).ownBlock)) (n := t750.length) (c := co27) ?_).2.2; exact (by (with_reducible repeat (first | apply zR | apply zV | apply zW)); exact (Kd.R_mono (Kd.R_far (p := ⟨gb762, 2, none⟩) (Kd.R_far (p := ⟨gb762, 1, none⟩) (Kd.R_far (p := ⟨gb762, 0, none⟩) (Kd.R_types HO752.out BK762.out (by decide)) (fun _ hk => hk.2) (.int .i64 t757)) (fun _ hk => hk.2) (.int .i64 t758)) (fun _ hk => hk.2) (.slice Ao34 t759.length co34)) (fun _ h_ => h_.1)))); (case side4 => exact (Kd.R_reads' HO752.out).2.1); rintro e w36 ⟨rfl, hb⟩; refine ⟨_, rfl, ?_⟩; have n0_ := zK (Kd.R_below (by (with_reducible repeat (first | apply zR | apply zV | apply zW)); exact (Kd.R_mono (Kd.R_far (p := ⟨gb762, 2, none⟩) (Kd.R_far (p := ⟨gb762, 1, none⟩) (Kd.R_far (p := ⟨gb762, 0, none⟩) (Kd.R_types HO747.out BK762.out (by decide)) (fun _ hk => hk.2) (.int .i64 t757)) (fun _ hk => hk.2) (.int .i64 t758)) (fun _ hk => hk.2) (.slice Ao34 t759.length co34)) (fun _ h_ => h_.1))) hb); have n1_ := zK (Kd.R_below (by (with_reducible repeat (first | apply zR | apply zV | apply zW)); exact (Kd.R_mono (Kd.R_far (p := ⟨gb762, 2, none⟩) (Kd.R_far (p := ⟨gb762, 1, none⟩) (Kd.R_far (p := ⟨gb762, 0, none⟩) (Kd.R_types HO752.out BK762.out (by decide)) (fun _ hk => hk.2) (.int .i64 t757)) (fun _ hk => hk.2) (.int .i64 t758)) (fun _ hk => hk.2) (.slice Ao34 t759.length co34)) (fun _ h_ => h_.1))) hb); have n2_ := zK (Kd.R_below (by (with_reducible repeat (first | apply zR | apply zV | apply zW)); exact (Kd.R_mono (Kd.R_far (p := ⟨gb762, 2, none⟩) (Kd.R_far (p := ⟨gb762, 1, none⟩) (Kd.R_far (p := ⟨gb762, 0, none⟩) (Kd.R_types HO756.out BK762.out (by decide)) (fun _ hk => hk.2) (.int .i64 t757)) (fun _ hk => hk.2) (.int .i64 t758)) (fun _ hk => hk.2) (.slice Ao34 t759.length co34)) (fun _ h_ => h_.1))) hb); have n3_ := zK (Kd.R_below (by (with_reducible repeat (first | apply zR | apply zV | apply zW)); exact (Kd.R_mono (Kd.R_far (p := ⟨gb762, 2, none⟩) (Kd.R_far (p := ⟨gb762, 1, none⟩) (Kd.R_far (p := ⟨gb762, 0, none⟩) (Kd.R_types HO761.out BK762.out (by decide)) (fun _ hk => hk.2) (.int .i64 t757)) (fun _ hk => hk.2) (.int .i64 t758)) (fun _ hk => hk.2) (.slice Ao34 t759.length co34)) (fun _ h_ => h_.1))) hb); have n4_ := zK (blk_below (g := gb753) (o := .cells #[.int .i64 t748, .int .i64 t749, .slice Ao27 t750.length co27] 65 (0, 0)) (by (with_reducible repeat (first | refine zM ?_ _ | refine zP ?_ | refine zQ ?_ _)); refine blk_far ?_ NB753_762.out _; (with_reducible repeat (first | refine zM ?_ _ | refine zP ?_ | refine zQ ?_ _)); refine blk_far ?_ NB753_762.out _; (with_reducible repeat (first | refine zM ?_ _ | refine zP ?_ | refine zQ ?_ _)); refine blk_far ?_ NB753_762.out _; (with_reducible repeat (first | refine zM ?_ _ | refine zP ?_ | refine zQ ?_ _)); exact BK753.out) hb); have n5_ := zK (blk_below (g := gb762) (o := .cells #[.int .i64 t757, .int .i64 t758, .slice Ao34 t759.length co34] 65 (0, 0)) (by (with_reducible repeat (first | refine zM ?_ _ | refine zP ?_ | refine zQ ?_ _)); refine blk_put (cs := #[.int .i64 t757, .int .i64 t758, .slice none 0 0]) ?_ 2 _ rfl; (with_reducible repeat (first | refine zM ?_ _ | refine zP ?_ | refine zQ ?_ _)); refine blk_put (cs := #[.int .i64 t757, .int .i64 0, .slice none 0 0]) ?_ 1 _ rfl; (with_reducible repeat (first | refine zM ?_ _ | refine zP ?_ | refine zQ ?_ _)); refine blk_put (cs := #[.int .i64 0, .int .i64 0, .slice none 0 0]) ?_ 0 _ rfl; (with_reducible repeat (first | refine zM ?_ _ | refine zP ?_ | refine zQ ?_ _)); exact BK762.out) hb); have n6_ := zK (below_step (by repeat (first | (with_reducible first | exact HB.out | apply zA | apply zN | apply zD | refine below_set ?_ GE753.out | refine below_set ?_ GE762.out) | exact HB.out)) hb); clear HO747; clear HO752; clear HO756; clear HO761; clear BK753; clear BK762; clear HB; have HO747 := n0_; have HO752 := n1_; have HO756 := n2_; have HO761 := n3_; have BK753 := n4_; have BK762 := n5_; have HB := n6_; clear n0_ n1_ n2_ n3_ n4_ n5_ n6_; (try clear hb); (try clear hb2); (try clear hk); (try clear hi)) | ((with_reducible refine gate_callee (f := 11) rfl ?_); refine goesL_ (some 47) rfl rfl Tryd.func11 (by kernel_rfl) rfl #[.slice A0 l0.length c0] rfl (by (try simp only [List.map_toArray, List.map_cons, List.map_nil]); first | done | rfl | (simp only [List.length_drop, List.length_take]; rfl)) ?_; (with_reducible refine (laws_toEntryS.calls k _ _ l0 t764 _ ?side1 ?side2 A16.out).mono ?_); (case side1 => repeat (first | exact (Kd.C_below HR0.out HB.out) | (with_reducible refine Kd.C_alloc ?_ _) | (with_reducible refine Kd.C_drewN ?_ _) | (with_reducible refine Kd.C_drew ?_))); (case side2 => exact HC0.out); rintro e w37 ⟨v765, rfl, ho0, hb⟩; refine ⟨_, rfl, ?_⟩; have n0_ := zK (Kd.R_elder' (by (with_reducible repeat (first | apply zR | apply zV | apply zW)); exact HO747.out) (Kd.R_base ho0) hb); have n1_ := zK (Kd.R_elder' (by (with_reducible repeat (first | apply zR | apply zV | apply zW)); exact HO752.out) (Kd.R_base ho0) hb); have n2_ := zK (Kd.R_elder' (by (with_reducible repeat (first | apply zR | apply zV | apply zW)); exact HO756.out) (Kd.R_base ho0) hb); have n3_ := zK (Kd.R_elder' (by (with_reducible repeat (first | apply zR | apply zV | apply zW)); exact HO761.out) (Kd.R_base ho0) hb); have n4_ := zK (Kd.R_lower (Kd.R_new' (Kd.R_new' (Kd.R_new' (Kd.R_new' ho0 (Kd.R_lt (by (with_reducible repeat (first | apply zR | apply zV | apply zW)); exact HO747.out))) (Kd.R_lt (by (with_reducible repeat (first | apply zR | apply zV | apply zW)); exact HO752.out))) (Kd.R_lt (by (with_reducible repeat (first | apply zR | apply zV | apply zW)); exact HO756.out))) (Kd.R_lt (by (with_reducible repeat (first | apply zR | apply zV | apply zW)); exact HO761.out))) (below_size (by repeat (first | (with_reducible first | exact HB.out | apply zA | apply zN | apply zD | refine below_set ?_ GE753.out | refine below_set ?_ GE762.out) | exact HB.out)))); have n5_ := zK (blk_below (g := gb753) (o := .cells #[.int .i64 t748, .int .i64 t749, .slice Ao27 t750.length co27] 65 (0, 0)) (by (with_reducible repeat (first | refine zM ?_ _ | refine zP ?_ | refine zQ ?_ _)); exact BK753.out) hb); have n6_ := zK (blk_below (g := gb762) (o := .cells #[.int .i64 t757, .int .i64 t758, .slice Ao34 t759.length co34] 65 (0, 0)) (by (with_reducible repeat (first | refine zM ?_ _ | refine zP ?_ | refine zQ ?_ _)); exact BK762.out) hb); have n7_ := zK (below_step (by repeat (first | (with_reducible first | exact HB.out | apply zA | apply zN | apply zD | refine below_set ?_ GE753.out | refine below_set ?_ GE762.out) | exact HB.out)) hb); clear HO747; clear HO752; clear HO756; clear HO761; clear BK753; clear BK762; clear HB; have HO747 := n0_; have HO752 := n1_; have HO756 := n2_; have HO761 := n3_; have HO766 := n4_; have BK753 := n5_; have BK762 := n6_; have HB := n7_; clear n0_ n1_ n2_ n3_ n4_ n5_ n6_ n7_; (try clear hb); (try clear hb2); (try clear hk); (try clear hi); (try clear ho0); obtain ⟨Ao38, co38, eo38⟩ := Kd.R_slice HO766.out; subst eo38) | ((with_reducible refine gate_callee (f := 14) rfl ?_); refine goesL_ (some 48) rfl rfl Tryd.func14 (by kernel_rfl) rfl #[.slice Ao29 t754.length co29, .slice Ao38 t764.length co38] rfl (by (try simp only [List.map_toArray, List.map_cons, List.map_nil]); first | done | rfl | (simp only [List.length_drop, List.length_take]; rfl)) ?_; (with_reducible refine (laws_eqEntryS.calls k _ _ t754 _ _ t764 true _ ?side1 ?side2 ?side3 ?side4 A17.out).mono ?_); (case side1 => repeat (first | exact (Kd.R_reads' HO756.out).2.2 | (with_reducible refine Kd.C_alloc ?_ _) | (with_reducible refine Kd.C_drewN ?_ _) | (with_reducible refine Kd.C_drew ?_))); (case side2 => exact (Kd.R_reads' HO756.out).2.1); (case side3 => repeat (first | exact (Kd.R_reads' HO766.out).2.2 | (with_reducible refine Kd.C_alloc ?_ _) | (with_reducible refine Kd.C_drewN ?_ _) | (with_reducible refine Kd.C_drew ?_))); (case side4 => exact (Kd.R_reads' HO766.out).2.1); rintro e w39 ⟨rfl, hb⟩; refine ⟨_, rfl, ?_⟩; have n0_ := zK (Kd.R_below (by (with_reducible repeat (first | apply zR | apply zV | apply zW)); exact HO747.out) hb); have n1_ := zK (Kd.R_below (by (with_reducible repeat (first | apply zR | apply zV | apply zW)); exact HO752.out) hb); have n2_ := zK (Kd.R_below (by (with_reducible repeat (first | apply zR | apply zV | apply zW)); exact HO756.out) hb); have n3_ := zK (Kd.R_below (by (with_reducible repeat (first | apply zR | apply zV | apply zW)); exact HO761.out) hb); have n4_ := zK (Kd.R_below (by (with_reducible repeat (first | apply zR | apply zV | apply zW)); exact HO766.out) hb); have n5_ := zK (blk_below (g := gb753) (o := .cells #[.int .i64 t748, .int .i64 t749, .slice Ao27 t750.length co27] 65 (0, 0)) (by (with_reducible repeat (first | refine zM ?_ _ | refine zP ?_ | refine zQ ?_ _)); exact BK753.out) hb); have n6_ := zK (blk_below (g := gb762) (o := .cells #[.int .i64 t757, .int .i64 t758, .slice Ao34 t759.length co34] 65 (0, 0)) (by (with_reducible repeat (first | refine zM ?_ _ | refine zP ?_ | refine zQ ?_ _)); exact BK762.out) hb); have n7_ := zK (below_step (by repeat (first | (with_reducible first | exact HB.out | apply zA | apply zN | apply zD | refine below_set ?_ GE753.out | refine below_set ?_ GE762.out) | exact HB.out)) hb); clear HO747; clear HO752; clear HO756; clear HO761; clear HO766; clear BK753; clear BK762; clear HB; have HO747 := n0_; have HO752 := n1_; have HO756 := n2_; have HO761 := n3_; have HO766 := n4_; have BK753 := n5_; have BK762 := n6_; have HB := n7_; clear n0_ n1_ n2_ n3_ n4_ n5_ n6_ n7_; (try clear hb); (try clear hb2); (try clear hk); (try clear hi)) | ((with_reducible refine gate_callee (f := 15) rfl ?_); refine goesL_ (some 52) rfl rfl Tryd.func15 (by kernel_rfl) rfl #[.slice Ao29 t754.length co29, .int .i64 1] rfl (by (try simp only [List.map_toArray, List.map_cons, List.map_nil]); first | done | rfl | (simp only [List.length_drop, List.length_take]; rfl)) ?_; (with_reducible refine (laws_markEntryS.calls k (fun k_ => some k_ = (.slice Ao29 t754.length co29 : Value).ownBlock) (.slice Ao29 t754.length co29) t754 1 t768 t769 w _ ?side1 ?side2 A19.out).mono ?_); (case side1 => repeat (first | (with_reducible first | exact HB.out | apply zA | apply zN | apply zD | refine below_set ?_ GE753.out | refine below_set ?_ GE762.out) | exact HB.out)); (case side2 => exact Kd.R_tight rfl HO756.out); rintro e w40 ⟨rfl, hy0, hb, hkp⟩; refine ⟨_, rfl, ?_⟩; have n0_ := zK (Kd.R_mono (ok' := fun k_ => some k_ ≠ (.slice Ao27 t750.length co27 : Value).ownBlock ∧ some k_ ≠ (.slice Ao29 t754.length co29 : Value).ownBlock ∧ some k_ ≠ (.slice Ao34 t759.length co34 : Value).ownBlock ∧ some k_ ≠ (.slice Ao38 t764.length co38 : Value).ownBlock) (Kd.R_keptB (HO747.out) hkp (fun k_ hk_ hs_ => (hk_.1.1.2) hs_)) (fun k_ hk_ => ⟨hk_.1.1.1.1.2, hk_.1.1.1.2, hk_.1.1.2, hk_.1.2⟩)); have n1_ := zK (Kd.R_mono (ok' := fun k_ => some k_ ≠ (.slice Ao23 t745.length co23 : Value).ownBlock ∧ some k_ ≠ (.slice Ao29 t754.length co29 : Value).ownBlock ∧ some k_ ≠ (.slice Ao34 t759.length co34 : Value).ownBlock ∧ some k_ ≠ (.slice Ao38 t764.length co38 : Value).ownBlock) (Kd.R_keptB (HO752.out) hkp (fun k_ hk_ hs_ => (hk_.1.1.2) hs_)) (fun k_ hk_ => ⟨hk_.1.1.1.1.2, hk_.1.1.1.2, hk_.1.1.2, hk_.1.2⟩)); have n2_ := zK (blk_kept (by (with_reducible repeat (first | refine zM ?_ _ | refine zP ?_ | refine zQ ?_ _)); exact BK753.out) hkp (fun hs_ => (fun e_ => (Kd.R_ne HO756.out BK753.out (by decide)) e_) hs_)); have n3_ := zK (Kd.R_reok rfl hy0 (fun k_ e_ => HO756.out.1 k_ e_)); have n4_ := zK (Kd.R_mono (ok' := fun k_ => some k_ ≠ (.slice Ao23 t745.length co23 : Value).ownBlock ∧ some k_ ≠ (.slice Ao27 t750.length co27 : Value).ownBlock ∧ some k_ ≠ (.slice Ao29 t754.length co29 : Value).ownBlock ∧ some k_ ≠ (.slice Ao38 t764.length co38 : Value).ownBlock) (Kd.R_keptB (HO761.out) hkp (fun k_ hk_ hs_ => (hk_.1.2) hs_)) (fun k_ hk_ => ⟨hk_.1.1.1.1.2, hk_.1.1.1.2, hk_.1.1.2, hk_.1.2⟩)); have n5_ := zK (blk_kept (by (with_reducible repeat (first | refine zM ?_ _ | refine zP ?_ | refine zQ ?_ _)); exact BK762.out) hkp (fun hs_ => (fun e_ => (Kd.R_ne HO756.out BK762.out (by decide)) e_) hs_)); have n6_ := zK (Kd.R_mono (ok' := fun k_ => some k_ ≠ (.slice Ao23 t745.length co23 : Value).ownBlock ∧ some k_ ≠ (.slice Ao27 t750.length co27 : Value).ownBlock ∧ some k_ ≠ (.slice Ao29 t754.length co29 : Value).ownBlock ∧ some k_ ≠ (.slice Ao34 t759.length co34 : Value).ownBlock) (Kd.R_keptB (HO766.out) hkp (fun k_ hk_ hs_ => (hk_.1.2) hs_)) (fun k_ hk_ => ⟨hk_.1.1.1.1.2, hk_.1.1.1.2, hk_.1.1.2, hk_.1.2⟩)); have n7_ := zK (hb); clear HO747; clear HO752; clear BK753; clear HO756; clear HO761; clear BK762; clear HO766; clear HB; have HO747 := n0_; have HO752 := n1_; have BK753 := n2_; have HO756 := n3_; have HO761 := n4_; have BK762 := n5_; have HO766 := n6_; have HB := n7_; clear n0_ n1_ n2_ n3_ n4_ n5_ n6_ n7_; (try clear hb); (try clear hkp); (try clear hy0)))
      (try simp only [Act.put, zS, zT, zU])
      go_cut [60] (fun v60 wc => ∃ (kq : Nat) (x60_19 : Bool), v60 = .bool x60_19 ∧ Aside0 (laws_FnExactResolvePath.j0 kq l0 a1 a2 a3 x60_19 t748 t749 t750 t757 t758 t759 = some r) ∧ Aside0 (kq ≤ k) ∧ Aside0 (Kd.R k80 80 wc w.heap.size (fun k_ => some k_ ≠ ((.slice Ao34 t759.length co34) : Value).ownBlock) (.slice Ao27 t750.length co27) t750) ∧ Aside0 (Kd.R k80 80 wc w.heap.size (fun k_ => some k_ ≠ ((.slice Ao27 t750.length co27) : Value).ownBlock) (.slice Ao34 t759.length co34) t759) ∧ Aside0 (wc.heap[gb753]? = some (.cells #[.int .i64 t748, .int .i64 t749, (.slice Ao27 t750.length co27)] 65 (0, 0))) ∧ Aside0 (wc.heap[gb762]? = some (.cells #[.int .i64 t757, .int .i64 t758, (.slice Ao34 t759.length co34)] 65 (0, 0))) ∧ Aside0 (Below w.heap.size w wc))
      case first =>
       have H := HC20.out
       clear HC20
       by_cases c41 : t768 < 0
       ·
        rw [if_pos c41] at H
        have c41b0 : decide (t768 < 0) = true := decide_eq_true c41
        clear c41
        (first | rw [c41b0] | (simp only [i64_w, i32_w]; rw [c41b0]) | skip)
        have H' := zK H
        clear H
        go_wp2
        go_meet
        case rel => exact ⟨_, (true), (by first | rfl | (simp; done) | (simp [*]; done)), H', ⟨by first | omega | exact Nat.le_refl _⟩, ⟨by (with_reducible repeat (first | apply zR | apply zV | apply zW)); exact Kd.R_mono HO752.out (fun _ hk => hk.2.2.1)⟩, ⟨by (with_reducible repeat (first | apply zR | apply zV | apply zW)); exact Kd.R_mono HO761.out (fun _ hk => hk.2.1)⟩, ⟨by (with_reducible repeat (first | refine zM ?_ _ | refine zP ?_ | refine zQ ?_ _)); exact BK753.out⟩, ⟨by (with_reducible repeat (first | refine zM ?_ _ | refine zP ?_ | refine zQ ?_ _)); exact BK762.out⟩, ⟨by repeat (first | (with_reducible first | exact HB.out | apply zA | apply zN | apply zD | refine below_set ?_ GE753.out | refine below_set ?_ GE762.out) | exact HB.out)⟩⟩
       ·
        rw [if_neg c41] at H
        have c41b0 : decide (t768 < 0) = false := decide_eq_false c41
        clear c41
        (first | rw [c41b0] | (simp only [i64_w, i32_w]; rw [c41b0]) | skip)
        replace H := Option.bind_eq_some_iff.mp H
        obtain ⟨t770, A420, H⟩ := H
        replace H : (laws_FnExactResolvePath.j0 k l0 a1 a2 a3 (!t770) t748 t749 t750 t757 t758 t759) = some r := H
        have A42 := zK A420
        clear A420
        have H' := zK H
        clear H
        have hnb43 := NB762_753.out
        have hnc43 := NB753_762.out
        have hcz44_0 : w40.cell? ⟨gb762, 0, none⟩ = some (.int .i64 t757) := (blk_cell BK762.out 0).trans rfl
        have hcz44_1 : w40.cell? ⟨gb762, 1, none⟩ = some (.int .i64 t758) := (blk_cell BK762.out 1).trans rfl
        have hcz44_2 : w40.cell? ⟨gb762, 2, none⟩ = some (.slice Ao34 t759.length co34) := (blk_cell BK762.out 2).trans rfl
        have hfz44_0 := blk_frozen BK762.out 0
        have hfz44_1 := blk_frozen BK762.out 1
        have hfz44_2 := blk_frozen BK762.out 2
        have hcz45_0 : w40.cell? ⟨gb753, 0, none⟩ = some (.int .i64 t748) := (blk_cell BK753.out 0).trans rfl
        have hcz45_1 : w40.cell? ⟨gb753, 1, none⟩ = some (.int .i64 t749) := (blk_cell BK753.out 1).trans rfl
        have hcz45_2 : w40.cell? ⟨gb753, 2, none⟩ = some (.slice Ao27 t750.length co27) := (blk_cell BK753.out 2).trans rfl
        have hfz45_0 := blk_frozen BK753.out 0
        have hfz45_1 := blk_frozen BK753.out 1
        have hfz45_2 := blk_frozen BK753.out 2
        go_wp2_with (first | (go_at_call 42; (with_reducible refine (laws_eqEntriesResult.calls k t757 t758 _ _ t759 t748 t749 _ _ t750 t770 _ ?side1 ?side2 ?side3 ?side4 A42.out).mono ?_); (case side1 => repeat (first | exact (Kd.R_reads' HO761.out).2.2 | (with_reducible refine Kd.C_alloc ?_ _) | (with_reducible refine Kd.C_drewN ?_ _) | (with_reducible refine Kd.C_drew ?_))); (case side2 => exact (Kd.R_reads' HO761.out).2.1); (case side3 => repeat (first | exact (Kd.R_reads' HO752.out).2.2 | (with_reducible refine Kd.C_alloc ?_ _) | (with_reducible refine Kd.C_drewN ?_ _) | (with_reducible refine Kd.C_drew ?_))); (case side4 => exact (Kd.R_reads' HO752.out).2.1); rintro e w46 ⟨rfl, hb⟩; have n0_ := zK (Kd.R_below (by (with_reducible repeat (first | apply zR | apply zV | apply zW)); exact HO747.out) hb); have n1_ := zK (Kd.R_below (by (with_reducible repeat (first | apply zR | apply zV | apply zW)); exact HO752.out) hb); have n2_ := zK (Kd.R_below (by (with_reducible repeat (first | apply zR | apply zV | apply zW)); exact HO756.out) hb); have n3_ := zK (Kd.R_below (by (with_reducible repeat (first | apply zR | apply zV | apply zW)); exact HO761.out) hb); have n4_ := zK (Kd.R_below (by (with_reducible repeat (first | apply zR | apply zV | apply zW)); exact HO766.out) hb); have n5_ := zK (blk_below (g := gb753) (o := .cells #[.int .i64 t748, .int .i64 t749, .slice Ao27 t750.length co27] 65 (0, 0)) (by (with_reducible repeat (first | refine zM ?_ _ | refine zP ?_ | refine zQ ?_ _)); exact BK753.out) hb); have n6_ := zK (blk_below (g := gb762) (o := .cells #[.int .i64 t757, .int .i64 t758, .slice Ao34 t759.length co34] 65 (0, 0)) (by (with_reducible repeat (first | refine zM ?_ _ | refine zP ?_ | refine zQ ?_ _)); exact BK762.out) hb); have n7_ := zK (below_step (by repeat (first | (with_reducible first | exact HB.out | apply zA | apply zN | apply zD | refine below_set ?_ GE753.out | refine below_set ?_ GE762.out) | exact HB.out)) hb); clear HO747; clear HO752; clear HO756; clear HO761; clear HO766; clear BK753; clear BK762; clear HB; have HO747 := n0_; have HO752 := n1_; have HO756 := n2_; have HO761 := n3_; have HO766 := n4_; have BK753 := n5_; have BK762 := n6_; have HB := n7_; clear n0_ n1_ n2_ n3_ n4_ n5_ n6_ n7_; (try clear hb); (try clear hb2); (try clear hk); (try clear hi)))
        go_meet
        case rel => exact ⟨_, (!t770), (by first | rfl | (simp; done) | (simp [*]; done)), H', ⟨by first | omega | exact Nat.le_refl _⟩, ⟨by (with_reducible repeat (first | apply zR | apply zV | apply zW)); exact Kd.R_mono HO752.out (fun _ hk => hk.2.2.1)⟩, ⟨by (with_reducible repeat (first | apply zR | apply zV | apply zW)); exact Kd.R_mono HO761.out (fun _ hk => hk.2.1)⟩, ⟨by (with_reducible repeat (first | refine zM ?_ _ | refine zP ?_ | refine zQ ?_ _)); exact BK753.out⟩, ⟨by (with_reducible repeat (first | refine zM ?_ _ | refine zP ?_ | refine zQ ?_ _)); exact BK762.out⟩, ⟨by repeat (first | (with_reducible first | exact HB.out | apply zA | apply zN | apply zD | refine below_set ?_ GE753.out | refine below_set ?_ GE762.out) | exact HB.out)⟩⟩
      case rest =>
       clear HC20
       try clear c1
       try clear p2
       try clear c3
       try clear c4
       try clear c5
       try clear c5b0
       try clear c5b1
       try clear c6
       try clear c6b0
       try clear c6b1
       try clear c7
       try clear c8
       try clear c8b0
       try clear c9
       try clear c11
       try clear c14
       try clear c15
       try clear c18
       try clear c32
       try clear c40
       try clear c41
       try clear c41b0
       try clear c42
       try clear c43
       try clear hcz26_0
       try clear hcz26_1
       try clear hcz26_2
       try clear hcz33_0
       try clear hcz33_1
       try clear hcz33_2
       try clear hcz35_0
       try clear hcz35_1
       try clear hcz35_2
       try clear hcz44_0
       try clear hcz44_1
       try clear hcz44_2
       try clear hcz45_0
       try clear hcz45_1
       try clear hcz45_2
       try clear hfz26_0
       try clear hfz26_1
       try clear hfz26_2
       try clear hfz33_0
       try clear hfz33_1
       try clear hfz33_2
       try clear hfz35_0
       try clear hfz35_1
       try clear hfz35_2
       try clear hfz44_0
       try clear hfz44_1
       try clear hfz44_2
       try clear hfz45_0
       try clear hfz45_1
       try clear hfz45_2
       obtain ⟨kq, x60_19, rfl, HA, HJ19, HO_754002, HO_763002, BK753, BK762, HB⟩ := hcut
       cases kq with
       | zero => exact absurd HA.out (by simp [laws_FnExactResolvePath.j0])
       | succ kj19 =>
        have H := HA.out
        clear HA
        simp only [laws_FnExactResolvePath.j0] at H
        by_cases c47 : x60_19 = true
        ·
         subst c47
         have H1 : (some false) = some r := by rw [if_pos rfl] at H; exact H
         clear H
         have H := H1
         clear H1
         exact absurd ((Option.some.inj H).trans hT_) (by decide)
        ·
         replace c47 := Bool.eq_false_iff.mpr c47
         subst c47
         have H1 : ((laws_markEntriesResult.f kj19 t757 t758 t759 1).bind fun bt771 => ((laws_heldEntriesResult.f kj19 t757 t758 bt771.2 1).bind fun t773 => (if t773 < 0 then (some false) else (if t773 = bt771.1 then ((laws_toEntryS.f kj19 l0).bind fun t774 => ((impl_ResolvePath.f kj19 t774 a1 a2 a3).bind fun bt777 => ((laws_eqEntriesResult.f kj19 bt777.1 bt777.2.1 bt777.2.2 t748 t749 t750).bind fun t783 => (if t783 = true then ((laws_heldEntriesResult.f kj19 t757 t758 bt771.2 1).bind fun t784 => (if t784 < 0 then (some false) else (if t784 = bt771.1 then (some true) else (some false)))) else (some false))))) else (some false))))) = some r := by rw [if_neg (show ¬ (false = true) by decide)] at H; exact H
         clear H
         have H := H1
         clear H1
         replace H := Option.bind_eq_some_iff.mp H
         obtain ⟨⟨t771, t772⟩, A480, H⟩ := H
         replace H : ((laws_heldEntriesResult.f kj19 t757 t758 t772 1).bind fun t773 => (if t773 < 0 then (some false) else (if t773 = t771 then ((laws_toEntryS.f kj19 l0).bind fun t774 => ((impl_ResolvePath.f kj19 t774 a1 a2 a3).bind fun bt777 => ((laws_eqEntriesResult.f kj19 bt777.1 bt777.2.1 bt777.2.2 t748 t749 t750).bind fun t783 => (if t783 = true then ((laws_heldEntriesResult.f kj19 t757 t758 t772 1).bind fun t784 => (if t784 < 0 then (some false) else (if t784 = t771 then (some true) else (some false)))) else (some false))))) else (some false)))) = some r := H
         have A48 := zK A480
         clear A480
         replace H := Option.bind_eq_some_iff.mp H
         obtain ⟨t773, A490, H⟩ := H
         replace H : (if t773 < 0 then (some false) else (if t773 = t771 then ((laws_toEntryS.f kj19 l0).bind fun t774 => ((impl_ResolvePath.f kj19 t774 a1 a2 a3).bind fun bt777 => ((laws_eqEntriesResult.f kj19 bt777.1 bt777.2.1 bt777.2.2 t748 t749 t750).bind fun t783 => (if t783 = true then ((laws_heldEntriesResult.f kj19 t757 t758 t772 1).bind fun t784 => (if t784 < 0 then (some false) else (if t784 = t771 then (some true) else (some false)))) else (some false))))) else (some false))) = some r := H
         have A49 := zK A490
         clear A490
         by_cases c50 : t773 < 0
         ·
          rw [if_pos c50] at H
          have c50b0 : decide (t773 < 0) = true := decide_eq_true c50
          clear c50
          exact absurd ((Option.some.inj H).trans hT_) (by decide)
         ·
          rw [if_neg c50] at H
          have c50b0 : decide (t773 < 0) = false := decide_eq_false c50
          clear c50
          by_cases c56 : t773 = t771
          ·
           rw [if_pos c56] at H
           have c56b0 : (t773 == t771) = true := beq_iff_eq.mpr c56
           have c56b1 : (t773 != t771) = false := bne_eq_false_iff_eq.mpr c56
           clear c56
           replace H := Option.bind_eq_some_iff.mp H
           obtain ⟨t774, A570, H⟩ := H
           replace H : ((impl_ResolvePath.f kj19 t774 a1 a2 a3).bind fun bt777 => ((laws_eqEntriesResult.f kj19 bt777.1 bt777.2.1 bt777.2.2 t748 t749 t750).bind fun t783 => (if t783 = true then ((laws_heldEntriesResult.f kj19 t757 t758 t772 1).bind fun t784 => (if t784 < 0 then (some false) else (if t784 = t771 then (some true) else (some false)))) else (some false)))) = some r := H
           have A57 := zK A570
           clear A570
           replace H := Option.bind_eq_some_iff.mp H
           obtain ⟨⟨t777, t778, t779⟩, A580, H⟩ := H
           replace H : ((laws_eqEntriesResult.f kj19 t777 t778 t779 t748 t749 t750).bind fun t783 => (if t783 = true then ((laws_heldEntriesResult.f kj19 t757 t758 t772 1).bind fun t784 => (if t784 < 0 then (some false) else (if t784 = t771 then (some true) else (some false)))) else (some false))) = some r := H
           have A58 := zK A580
           clear A580
           replace H := Option.bind_eq_some_iff.mp H
           obtain ⟨t783, A590, H⟩ := H
           replace H : (if t783 = true then ((laws_heldEntriesResult.f kj19 t757 t758 t772 1).bind fun t784 => (if t784 < 0 then (some false) else (if t784 = t771 then (some true) else (some false)))) else (some false)) = some r := H
           have A59 := zK A590
           clear A590
           by_cases c60 : t783 = true
           ·
            subst c60
            have H1 : ((laws_heldEntriesResult.f kj19 t757 t758 t772 1).bind fun t784 => (if t784 < 0 then (some false) else (if t784 = t771 then (some true) else (some false)))) = some r := by rw [if_pos rfl] at H; exact H
            clear H
            have H := H1
            clear H1
            replace H := Option.bind_eq_some_iff.mp H
            obtain ⟨t784, A610, H⟩ := H
            replace H : (if t784 < 0 then (some false) else (if t784 = t771 then (some true) else (some false))) = some r := H
            have A61 := zK A610
            clear A610
            by_cases c62 : t784 < 0
            ·
             rw [if_pos c62] at H
             have c62b0 : decide (t784 < 0) = true := decide_eq_true c62
             clear c62
             exact absurd ((Option.some.inj H).trans hT_) (by decide)
            ·
             rw [if_neg c62] at H
             have c62b0 : decide (t784 < 0) = false := decide_eq_false c62
             clear c62
             by_cases c80 : t784 = t771
             ·
              rw [if_pos c80] at H
              have c80b0 : (t784 == t771) = true := beq_iff_eq.mpr c80
              have c80b1 : (t784 != t771) = false := bne_eq_false_iff_eq.mpr c80
              clear c80
              obtain rfl := Option.some.inj H
              have hnb81 := NB762_753.out
              have hnc81 := NB753_762.out
              have hcz82_0 : wc.cell? ⟨gb762, 0, none⟩ = some (.int .i64 t757) := (blk_cell BK762.out 0).trans rfl
              have hcz82_1 : wc.cell? ⟨gb762, 1, none⟩ = some (.int .i64 t758) := (blk_cell BK762.out 1).trans rfl
              have hcz82_2 : wc.cell? ⟨gb762, 2, none⟩ = some (.slice Ao34 t759.length co34) := (blk_cell BK762.out 2).trans rfl
              have hfz82_0 := blk_frozen BK762.out 0
              have hfz82_1 := blk_frozen BK762.out 1
              have hfz82_2 := blk_frozen BK762.out 2
              go_wp2_with (first | ((with_reducible refine gate_callee (f := 43) rfl ?_); refine goesL_ (some 63) rfl rfl Tryd.func43 (by kernel_rfl) rfl #[.agg #[.int .i64 t757, .int .i64 t758, .slice Ao34 t759.length co34], .int .i64 1] rfl (by (try simp only [List.map_toArray, List.map_cons, List.map_nil]); first | done | rfl | (simp only [List.length_drop, List.length_take]; rfl)) ?_; (with_reducible refine (laws_markEntriesResult.calls kj19 t757 t758 (fun k_ => some k_ = (.slice Ao34 t759.length co34 : Value).ownBlock) (.slice Ao34 t759.length co34) t759 1 t771 t772 w _ ?side1 ?side2 A48.out).mono ?_); (case side1 => repeat (first | (with_reducible first | exact HB.out | apply zA | apply zN | apply zD | refine below_set ?_ GE753.out | refine below_set ?_ GE762.out) | exact HB.out)); (case side2 => exact Kd.R_tight rfl HO_763002.out); rintro e w83 ⟨rfl, hy0, hb, hkp⟩; refine ⟨_, rfl, ?_⟩; have n0_ := zK (Kd.R_mono (ok' := fun k_ => some k_ ≠ (.slice Ao34 t759.length co34 : Value).ownBlock) (Kd.R_keptB (HO_754002.out) hkp (fun k_ hk_ hs_ => (hk_) hs_)) (fun k_ hk_ => hk_.1)); have n1_ := zK (Kd.R_reok rfl hy0 (fun k_ e_ => HO_763002.out.1 k_ e_)); have n2_ := zK (blk_kept (by (with_reducible repeat (first | refine zM ?_ _ | refine zP ?_ | refine zQ ?_ _)); exact BK753.out) hkp (fun hs_ => (fun e_ => (Kd.R_ne HO_763002.out BK753.out (by decide)) e_) hs_)); have n3_ := zK (blk_kept (by (with_reducible repeat (first | refine zM ?_ _ | refine zP ?_ | refine zQ ?_ _)); exact BK762.out) hkp (fun hs_ => (fun e_ => (Kd.R_ne HO_763002.out BK762.out (by decide)) e_) hs_)); have n4_ := zK (hb); clear HO_754002; clear HO_763002; clear BK753; clear BK762; clear HB; have HO_754002 := n0_; have HO_763002 := n1_; have BK753 := n2_; have BK762 := n3_; have HB := n4_; clear n0_ n1_ n2_ n3_ n4_; (try clear hb); (try clear hkp); (try clear hy0); have hcz84_0 : w83.cell? ⟨gb762, 0, none⟩ = some (.int .i64 t757) := (blk_cell BK762.out 0).trans rfl; have hcz84_1 : w83.cell? ⟨gb762, 1, none⟩ = some (.int .i64 t758) := (blk_cell BK762.out 1).trans rfl; have hcz84_2 : w83.cell? ⟨gb762, 2, none⟩ = some (.slice Ao34 t759.length co34) := (blk_cell BK762.out 2).trans rfl; have hfz84_0 := blk_frozen BK762.out 0; have hfz84_1 := blk_frozen BK762.out 1; have hfz84_2 := blk_frozen BK762.out 2) | ((with_reducible refine gate_callee (f := 44) rfl ?_); refine goesL_ (some 66) rfl rfl Tryd.func44 (by kernel_rfl) rfl #[.agg #[.int .i64 t757, .int .i64 t758, .slice Ao34 t772.length co34], .int .i64 1] rfl (by (try simp only [List.map_toArray, List.map_cons, List.map_nil]); first | done | (rw [show t772.length = t759.length from (Kd.R_reads' HO_763002.out).1.symm] <;> rfl) | rfl | (simp only [List.length_drop, List.length_take]; rfl)) ?_; (with_reducible refine (laws_heldEntriesResult.calls kj19 t757 t758 _ _ t772 1 t773 _ ?side1 ?side2 A49.out).mono ?_); (case side1 => repeat (first | exact (Kd.R_reads' HO_763002.out).2.2 | (with_reducible refine Kd.C_alloc ?_ _) | (with_reducible refine Kd.C_drewN ?_ _) | (with_reducible refine Kd.C_drew ?_))); (case side2 => rw [show t772.length = t759.length from (Kd.R_reads' HO_763002.out).1.symm]; exact (Kd.R_reads' HO_763002.out).2.1); rintro e w85 ⟨rfl, hb⟩; refine ⟨_, rfl, ?_⟩; have n0_ := zK (Kd.R_below (by (with_reducible repeat (first | apply zR | apply zV | apply zW)); exact HO_754002.out) hb); have n1_ := zK (Kd.R_below (by (with_reducible repeat (first | apply zR | apply zV | apply zW)); exact HO_763002.out) hb); have n2_ := zK (blk_below (g := gb753) (o := .cells #[.int .i64 t748, .int .i64 t749, .slice Ao27 t750.length co27] 65 (0, 0)) (by (with_reducible repeat (first | refine zM ?_ _ | refine zP ?_ | refine zQ ?_ _)); exact BK753.out) hb); have n3_ := zK (blk_below (g := gb762) (o := .cells #[.int .i64 t757, .int .i64 t758, .slice Ao34 t759.length co34] 65 (0, 0)) (by (with_reducible repeat (first | refine zM ?_ _ | refine zP ?_ | refine zQ ?_ _)); exact BK762.out) hb); have n4_ := zK (below_step (by repeat (first | (with_reducible first | exact HB.out | apply zA | apply zN | apply zD | refine below_set ?_ GE753.out | refine below_set ?_ GE762.out) | exact HB.out)) hb); clear HO_754002; clear HO_763002; clear BK753; clear BK762; clear HB; have HO_754002 := n0_; have HO_763002 := n1_; have BK753 := n2_; have BK762 := n3_; have HB := n4_; clear n0_ n1_ n2_ n3_ n4_; (try clear hb); (try clear hb2); (try clear hk); (try clear hi)) | ((with_reducible refine gate_callee (f := 11) rfl ?_); refine goesL_ (some 73) rfl rfl Tryd.func11 (by kernel_rfl) rfl #[.slice A0 l0.length c0] rfl (by (try simp only [List.map_toArray, List.map_cons, List.map_nil]); first | done | rfl | (simp only [List.length_drop, List.length_take]; rfl)) ?_; (with_reducible refine (laws_toEntryS.calls kj19 _ _ l0 t774 _ ?side1 ?side2 A57.out).mono ?_); (case side1 => repeat (first | exact (Kd.C_below HR0.out HB.out) | (with_reducible refine Kd.C_alloc ?_ _) | (with_reducible refine Kd.C_drewN ?_ _) | (with_reducible refine Kd.C_drew ?_))); (case side2 => exact HC0.out); rintro e w86 ⟨v775, rfl, ho0, hb⟩; refine ⟨_, rfl, ?_⟩; have n0_ := zK (Kd.R_elder' (by (with_reducible repeat (first | apply zR | apply zV | apply zW)); exact HO_754002.out) (Kd.R_base ho0) hb); have n1_ := zK (Kd.R_elder' (by (with_reducible repeat (first | apply zR | apply zV | apply zW)); exact HO_763002.out) (Kd.R_base ho0) hb); have n2_ := zK (Kd.R_lower (Kd.R_new' (Kd.R_new' ho0 (Kd.R_lt (by (with_reducible repeat (first | apply zR | apply zV | apply zW)); exact HO_754002.out))) (Kd.R_lt (by (with_reducible repeat (first | apply zR | apply zV | apply zW)); exact HO_763002.out))) (below_size (by repeat (first | (with_reducible first | exact HB.out | apply zA | apply zN | apply zD | refine below_set ?_ GE753.out | refine below_set ?_ GE762.out) | exact HB.out)))); have n3_ := zK (blk_below (g := gb753) (o := .cells #[.int .i64 t748, .int .i64 t749, .slice Ao27 t750.length co27] 65 (0, 0)) (by (with_reducible repeat (first | refine zM ?_ _ | refine zP ?_ | refine zQ ?_ _)); exact BK753.out) hb); have n4_ := zK (blk_below (g := gb762) (o := .cells #[.int .i64 t757, .int .i64 t758, .slice Ao34 t759.length co34] 65 (0, 0)) (by (with_reducible repeat (first | refine zM ?_ _ | refine zP ?_ | refine zQ ?_ _)); exact BK762.out) hb); have n5_ := zK (below_step (by repeat (first | (with_reducible first | exact HB.out | apply zA | apply zN | apply zD | refine below_set ?_ GE753.out | refine below_set ?_ GE762.out) | exact HB.out)) hb); clear HO_754002; clear HO_763002; clear BK753; clear BK762; clear HB; have HO_754002 := n0_; have HO_763002 := n1_; have HO776 := n2_; have BK753 := n3_; have BK762 := n4_; have HB := n5_; clear n0_ n1_ n2_ n3_ n4_ n5_; (try clear hb); (try clear hb2); (try clear hk); (try clear hi); (try clear ho0); obtain ⟨Ao87, co87, eo87⟩ := Kd.R_slice HO776.out; subst eo87) | ((with_reducible refine gate_callee (f := 41) rfl ?_); refine goesL_ (some 77) rfl rfl Tryd.func41 (by kernel_rfl) rfl #[.slice Ao87 t774.length co87, .string a1, .int .i64 a2, .string a3] rfl (by (try simp only [List.map_toArray, List.map_cons, List.map_nil]); first | done | rfl | (simp only [List.length_drop, List.length_take]; rfl)) ?_; (with_reducible refine (impl_ResolvePath.calls kj19 _ _ t774 a1 a2 a3 t777 t778 t779 _ ?side1 ?side2 A58.out).mono ?_); (case side1 => repeat (first | exact (Kd.R_reads' HO776.out).2.2 | (with_reducible refine Kd.C_alloc ?_ _) | (with_reducible refine Kd.C_drewN ?_ _) | (with_reducible refine Kd.C_drew ?_))); (case side2 => exact (Kd.R_reads' HO776.out).2.1); rintro e w88 ⟨v780, rfl, ho0, hb⟩; refine ⟨_, rfl, ?_⟩; have n0_ := zK (Kd.R_elder' (by (with_reducible repeat (first | apply zR | apply zV | apply zW)); exact HO_754002.out) (Kd.R_base ho0) hb); have n1_ := zK (Kd.R_elder' (by (with_reducible repeat (first | apply zR | apply zV | apply zW)); exact HO_763002.out) (Kd.R_base ho0) hb); have n2_ := zK (Kd.R_elder' (by (with_reducible repeat (first | apply zR | apply zV | apply zW)); exact HO776.out) (Kd.R_base ho0) hb); have n3_ := zK (Kd.R_lower (Kd.R_new' (Kd.R_new' (Kd.R_new' ho0 (Kd.R_lt (by (with_reducible repeat (first | apply zR | apply zV | apply zW)); exact HO_754002.out))) (Kd.R_lt (by (with_reducible repeat (first | apply zR | apply zV | apply zW)); exact HO_763002.out))) (Kd.R_lt (by (with_reducible repeat (first | apply zR | apply zV | apply zW)); exact HO776.out))) (below_size (by repeat (first | (with_reducible first | exact HB.out | apply zA | apply zN | apply zD | refine below_set ?_ GE753.out | refine below_set ?_ GE762.out) | exact HB.out)))); have n4_ := zK (blk_below (g := gb753) (o := .cells #[.int .i64 t748, .int .i64 t749, .slice Ao27 t750.length co27] 65 (0, 0)) (by (with_reducible repeat (first | refine zM ?_ _ | refine zP ?_ | refine zQ ?_ _)); exact BK753.out) hb); have n5_ := zK (blk_below (g := gb762) (o := .cells #[.int .i64 t757, .int .i64 t758, .slice Ao34 t759.length co34] 65 (0, 0)) (by (with_reducible repeat (first | refine zM ?_ _ | refine zP ?_ | refine zQ ?_ _)); exact BK762.out) hb); have n6_ := zK (below_step (by repeat (first | (with_reducible first | exact HB.out | apply zA | apply zN | apply zD | refine below_set ?_ GE753.out | refine below_set ?_ GE762.out) | exact HB.out)) hb); clear HO_754002; clear HO_763002; clear HO776; clear BK753; clear BK762; clear HB; have HO_754002 := n0_; have HO_763002 := n1_; have HO776 := n2_; have HO781 := n3_; have BK753 := n4_; have BK762 := n5_; have HB := n6_; clear n0_ n1_ n2_ n3_ n4_ n5_ n6_; (try clear hb); (try clear hb2); (try clear hk); (try clear hi); (try clear ho0)) | ((with_reducible refine gate_dst (N := 16) rfl ?_); refine box_event ?hg (N := 16) ?hd (cs := #[.int .i64 0, .int .i64 0, .slice none 0 0]) (t := 65) ?hr ?_; (case hd => rfl); (case hg => rfl); (case hr => first | (go_simp; done) | (go_simp; rfl)); intro gb782 hg w89 hbox hb; have n0_ := zK (Kd.R_below (by (with_reducible repeat (first | apply zR | apply zV | apply zW)); exact HO_754002.out) hb); have n1_ := zK (Kd.R_below (by (with_reducible repeat (first | apply zR | apply zV | apply zW)); exact HO_763002.out) hb); have n2_ := zK (Kd.R_below (by (with_reducible repeat (first | apply zR | apply zV | apply zW)); exact HO776.out) hb); have n3_ := zK (Kd.R_below (by (with_reducible repeat (first | apply zR | apply zV | apply zW)); exact HO781.out) hb); have n4_ := zK (blk_below (g := gb753) (o := .cells #[.int .i64 t748, .int .i64 t749, .slice Ao27 t750.length co27] 65 (0, 0)) (by (with_reducible repeat (first | refine zM ?_ _ | refine zP ?_ | refine zQ ?_ _)); exact BK753.out) hb); have n5_ := zK (blk_below (g := gb762) (o := .cells #[.int .i64 t757, .int .i64 t758, .slice Ao34 t759.length co34] 65 (0, 0)) (by (with_reducible repeat (first | refine zM ?_ _ | refine zP ?_ | refine zQ ?_ _)); exact BK762.out) hb); have n6_ := zK (below_step (by repeat (first | (with_reducible first | exact HB.out | apply zA | apply zN | apply zD | refine below_set ?_ GE753.out | refine below_set ?_ GE762.out) | exact HB.out)) hb); have n7_ := zK (hbox); have n8_ := zK ((by rw [hg]; exact (below_size (by repeat (first | (with_reducible first | exact HB.out | apply zA | apply zN | apply zD | refine below_set ?_ GE753.out | refine below_set ?_ GE762.out) | exact HB.out))) : w.heap.size ≤ gb782)); have n9_ := zK ((by rw [hg]; exact (below_size (by repeat (first | (with_reducible first | exact HB.out | apply zA | apply zN | apply zD | refine below_set ?_ GE753.out | refine below_set ?_ GE762.out) | exact HB.out))) : w.heap.size ≤ gb782)); have n10_ := zK ((by rw [hg]; exact Nat.ne_of_lt (blk_lt (g := gb753) (o := .cells #[.int .i64 t748, .int .i64 t749, .slice Ao27 t750.length co27] 65 (0, 0)) (by (with_reducible repeat (first | refine zM ?_ _ | refine zP ?_ | refine zQ ?_ _)); exact BK753.out)) : gb753 ≠ gb782)); have n11_ := zK ((by rw [hg]; exact Nat.ne_of_gt (blk_lt (g := gb753) (o := .cells #[.int .i64 t748, .int .i64 t749, .slice Ao27 t750.length co27] 65 (0, 0)) (by (with_reducible repeat (first | refine zM ?_ _ | refine zP ?_ | refine zQ ?_ _)); exact BK753.out)) : gb782 ≠ gb753)); have n12_ := zK ((by rw [hg]; exact Nat.ne_of_lt (blk_lt (g := gb762) (o := .cells #[.int .i64 t757, .int .i64 t758, .slice Ao34 t759.length co34] 65 (0, 0)) (by (with_reducible repeat (first | refine zM ?_ _ | refine zP ?_ | refine zQ ?_ _)); exact BK762.out)) : gb762 ≠ gb782)); have n13_ := zK ((by rw [hg]; exact Nat.ne_of_gt (blk_lt (g := gb762) (o := .cells #[.int .i64 t757, .int .i64 t758, .slice Ao34 t759.length co34] 65 (0, 0)) (by (with_reducible repeat (first | refine zM ?_ _ | refine zP ?_ | refine zQ ?_ _)); exact BK762.out)) : gb782 ≠ gb762)); clear HO_754002; clear HO_763002; clear HO776; clear HO781; clear BK753; clear BK762; clear HB; have HO_754002 := n0_; have HO_763002 := n1_; have HO776 := n2_; have HO781 := n3_; have BK753 := n4_; have BK762 := n5_; have HB := n6_; have BK782 := n7_; have GW782 := n8_; have GE782 := n9_; have NB753_782 := n10_; have NB782_753 := n11_; have NB762_782 := n12_; have NB782_762 := n13_; clear n0_ n1_ n2_ n3_ n4_ n5_ n6_ n7_ n8_ n9_ n10_ n11_ n12_ n13_; clear hb hbox hg; have hnb90 := NB782_753.out; have hnc90 := NB753_782.out; have hnb91 := NB782_762.out; have hnc91 := NB762_782.out; have hcz92_0 : w89.cell? ⟨gb782, 0, none⟩ = some (.int .i64 0) := (blk_cell BK782.out 0).trans rfl; have hcz92_1 : w89.cell? ⟨gb782, 1, none⟩ = some (.int .i64 0) := (blk_cell BK782.out 1).trans rfl; have hcz92_2 : w89.cell? ⟨gb782, 2, none⟩ = some (.slice none 0 0) := (blk_cell BK782.out 2).trans rfl; have hfz92_0 := blk_frozen BK782.out 0; have hfz92_1 := blk_frozen BK782.out 1; have hfz92_2 := blk_frozen BK782.out 2; obtain ⟨Ao93, co93, eo93⟩ := Kd.R_slice HO781.out; subst eo93; have hcz94_0 : w89.cell? ⟨gb753, 0, none⟩ = some (.int .i64 t748) := (blk_cell BK753.out 0).trans rfl; have hcz94_1 : w89.cell? ⟨gb753, 1, none⟩ = some (.int .i64 t749) := (blk_cell BK753.out 1).trans rfl; have hcz94_2 : w89.cell? ⟨gb753, 2, none⟩ = some (.slice Ao27 t750.length co27) := (blk_cell BK753.out 2).trans rfl; have hfz94_0 := blk_frozen BK753.out 0; have hfz94_1 := blk_frozen BK753.out 1; have hfz94_2 := blk_frozen BK753.out 2) | ((with_reducible refine gate_callee (f := 42) rfl ?_); refine goesL_ (some 80) rfl rfl Tryd.func42 (by kernel_rfl) rfl #[.agg #[.int .i64 t777, .int .i64 t778, .slice Ao93 t779.length co93], .agg #[.int .i64 t748, .int .i64 t749, .slice Ao27 t750.length co27]] rfl (by (try simp only [List.map_toArray, List.map_cons, List.map_nil]); first | done | rfl | (simp only [List.length_drop, List.length_take]; rfl)) ?_; (with_reducible refine (laws_eqEntriesResult.calls kj19 t777 t778 _ _ t779 t748 t749 _ _ t750 true _ ?side1 ?side2 ?side3 ?side4 A59.out).mono ?_); (case side1 => refine (Kd.R_reads' (e := 80) (base := w.heap.size) (ok := fun k_ => (((True ∧ some k_ ≠ (.slice Ao27 t750.length co27 : Value).ownBlock) ∧ some k_ ≠ (.slice Ao34 t759.length co34 : Value).ownBlock) ∧ some k_ ≠ (.slice Ao87 t774.length co87 : Value).ownBlock)) (n := t779.length) (c := co93) ?_).2.2; exact (by (with_reducible repeat (first | apply zR | apply zV | apply zW)); exact (Kd.R_mono (Kd.R_far (p := ⟨gb782, 2, none⟩) (Kd.R_far (p := ⟨gb782, 1, none⟩) (Kd.R_far (p := ⟨gb782, 0, none⟩) (Kd.R_types HO781.out BK782.out (by decide)) (fun _ hk => hk.2) (.int .i64 t777)) (fun _ hk => hk.2) (.int .i64 t778)) (fun _ hk => hk.2) (.slice Ao93 t779.length co93)) (fun _ h_ => h_.1)))); (case side2 => exact (Kd.R_reads' HO781.out).2.1); (case side3 => refine (Kd.R_reads' (e := 80) (base := w.heap.size) (ok := fun k_ => ((some k_ ≠ (.slice Ao34 t759.length co34 : Value).ownBlock ∧ some k_ ≠ (.slice Ao87 t774.length co87 : Value).ownBlock) ∧ some k_ ≠ (.slice Ao93 t779.length co93 : Value).ownBlock)) (n := t750.length) (c := co27) ?_).2.2; exact (by (with_reducible repeat (first | apply zR | apply zV | apply zW)); exact (Kd.R_mono (Kd.R_far (p := ⟨gb782, 2, none⟩) (Kd.R_far (p := ⟨gb782, 1, none⟩) (Kd.R_far (p := ⟨gb782, 0, none⟩) (Kd.R_types HO_754002.out BK782.out (by decide)) (fun _ hk => hk.2) (.int .i64 t777)) (fun _ hk => hk.2) (.int .i64 t778)) (fun _ hk => hk.2) (.slice Ao93 t779.length co93)) (fun _ h_ => h_.1)))); (case side4 => exact (Kd.R_reads' HO_754002.out).2.1); rintro e w95 ⟨rfl, hb⟩; refine ⟨_, rfl, ?_⟩; have n0_ := zK (Kd.R_below (by (with_reducible repeat (first | apply zR | apply zV | apply zW)); exact (Kd.R_mono (Kd.R_far (p := ⟨gb782, 2, none⟩) (Kd.R_far (p := ⟨gb782, 1, none⟩) (Kd.R_far (p := ⟨gb782, 0, none⟩) (Kd.R_types HO_754002.out BK782.out (by decide)) (fun _ hk => hk.2) (.int .i64 t777)) (fun _ hk => hk.2) (.int .i64 t778)) (fun _ hk => hk.2) (.slice Ao93 t779.length co93)) (fun _ h_ => h_.1))) hb); have n1_ := zK (Kd.R_below (by (with_reducible repeat (first | apply zR | apply zV | apply zW)); exact (Kd.R_mono (Kd.R_far (p := ⟨gb782, 2, none⟩) (Kd.R_far (p := ⟨gb782, 1, none⟩) (Kd.R_far (p := ⟨gb782, 0, none⟩) (Kd.R_types HO_763002.out BK782.out (by decide)) (fun _ hk => hk.2) (.int .i64 t777)) (fun _ hk => hk.2) (.int .i64 t778)) (fun _ hk => hk.2) (.slice Ao93 t779.length co93)) (fun _ h_ => h_.1))) hb); have n2_ := zK (Kd.R_below (by (with_reducible repeat (first | apply zR | apply zV | apply zW)); exact (Kd.R_mono (Kd.R_far (p := ⟨gb782, 2, none⟩) (Kd.R_far (p := ⟨gb782, 1, none⟩) (Kd.R_far (p := ⟨gb782, 0, none⟩) (Kd.R_types HO776.out BK782.out (by decide)) (fun _ hk => hk.2) (.int .i64 t777)) (fun _ hk => hk.2) (.int .i64 t778)) (fun _ hk => hk.2) (.slice Ao93 t779.length co93)) (fun _ h_ => h_.1))) hb); have n3_ := zK (Kd.R_below (by (with_reducible repeat (first | apply zR | apply zV | apply zW)); exact (Kd.R_mono (Kd.R_far (p := ⟨gb782, 2, none⟩) (Kd.R_far (p := ⟨gb782, 1, none⟩) (Kd.R_far (p := ⟨gb782, 0, none⟩) (Kd.R_types HO781.out BK782.out (by decide)) (fun _ hk => hk.2) (.int .i64 t777)) (fun _ hk => hk.2) (.int .i64 t778)) (fun _ hk => hk.2) (.slice Ao93 t779.length co93)) (fun _ h_ => h_.1))) hb); have n4_ := zK (blk_below (g := gb753) (o := .cells #[.int .i64 t748, .int .i64 t749, .slice Ao27 t750.length co27] 65 (0, 0)) (by (with_reducible repeat (first | refine zM ?_ _ | refine zP ?_ | refine zQ ?_ _)); refine blk_far ?_ NB753_782.out _; (with_reducible repeat (first | refine zM ?_ _ | refine zP ?_ | refine zQ ?_ _)); refine blk_far ?_ NB753_782.out _; (with_reducible repeat (first | refine zM ?_ _ | refine zP ?_ | refine zQ ?_ _)); refine blk_far ?_ NB753_782.out _; (with_reducible repeat (first | refine zM ?_ _ | refine zP ?_ | refine zQ ?_ _)); exact BK753.out) hb); have n5_ := zK (blk_below (g := gb762) (o := .cells #[.int .i64 t757, .int .i64 t758, .slice Ao34 t759.length co34] 65 (0, 0)) (by (with_reducible repeat (first | refine zM ?_ _ | refine zP ?_ | refine zQ ?_ _)); refine blk_far ?_ NB762_782.out _; (with_reducible repeat (first | refine zM ?_ _ | refine zP ?_ | refine zQ ?_ _)); refine blk_far ?_ NB762_782.out _; (with_reducible repeat (first | refine zM ?_ _ | refine zP ?_ | refine zQ ?_ _)); refine blk_far ?_ NB762_782.out _; (with_reducible repeat (first | refine zM ?_ _ | refine zP ?_ | refine zQ ?_ _)); exact BK762.out) hb); have n6_ := zK (blk_below (g := gb782) (o := .cells #[.int .i64 t777, .int .i64 t778, .slice Ao93 t779.length co93] 65 (0, 0)) (by (with_reducible repeat (first | refine zM ?_ _ | refine zP ?_ | refine zQ ?_ _)); refine blk_put (cs := #[.int .i64 t777, .int .i64 t778, .slice none 0 0]) ?_ 2 _ rfl; (with_reducible repeat (first | refine zM ?_ _ | refine zP ?_ | refine zQ ?_ _)); refine blk_put (cs := #[.int .i64 t777, .int .i64 0, .slice none 0 0]) ?_ 1 _ rfl; (with_reducible repeat (first | refine zM ?_ _ | refine zP ?_ | refine zQ ?_ _)); refine blk_put (cs := #[.int .i64 0, .int .i64 0, .slice none 0 0]) ?_ 0 _ rfl; (with_reducible repeat (first | refine zM ?_ _ | refine zP ?_ | refine zQ ?_ _)); exact BK782.out) hb); have n7_ := zK (below_step (by repeat (first | (with_reducible first | exact HB.out | apply zA | apply zN | apply zD | refine below_set ?_ GE753.out | refine below_set ?_ GE762.out | refine below_set ?_ GE782.out) | exact HB.out)) hb); clear HO_754002; clear HO_763002; clear HO776; clear HO781; clear BK753; clear BK762; clear BK782; clear HB; have HO_754002 := n0_; have HO_763002 := n1_; have HO776 := n2_; have HO781 := n3_; have BK753 := n4_; have BK762 := n5_; have BK782 := n6_; have HB := n7_; clear n0_ n1_ n2_ n3_ n4_ n5_ n6_ n7_; (try clear hb); (try clear hb2); (try clear hk); (try clear hi); have hcz96_0 : w95.cell? ⟨gb762, 0, none⟩ = some (.int .i64 t757) := (blk_cell BK762.out 0).trans rfl; have hcz96_1 : w95.cell? ⟨gb762, 1, none⟩ = some (.int .i64 t758) := (blk_cell BK762.out 1).trans rfl; have hcz96_2 : w95.cell? ⟨gb762, 2, none⟩ = some (.slice Ao34 t759.length co34) := (blk_cell BK762.out 2).trans rfl; have hfz96_0 := blk_frozen BK762.out 0; have hfz96_1 := blk_frozen BK762.out 1; have hfz96_2 := blk_frozen BK762.out 2) | ((with_reducible refine gate_callee (f := 44) rfl ?_); refine goesL_ (some 84) rfl rfl Tryd.func44 (by kernel_rfl) rfl #[.agg #[.int .i64 t757, .int .i64 t758, .slice Ao34 t772.length co34], .int .i64 1] rfl (by (try simp only [List.map_toArray, List.map_cons, List.map_nil]); first | done | (rw [show t772.length = t759.length from (Kd.R_reads' HO_763002.out).1.symm] <;> rfl) | rfl | (simp only [List.length_drop, List.length_take]; rfl)) ?_; (with_reducible refine (laws_heldEntriesResult.calls kj19 t757 t758 _ _ t772 1 t784 _ ?side1 ?side2 A61.out).mono ?_); (case side1 => repeat (first | exact (Kd.R_reads' HO_763002.out).2.2 | (with_reducible refine Kd.C_alloc ?_ _) | (with_reducible refine Kd.C_drewN ?_ _) | (with_reducible refine Kd.C_drew ?_))); (case side2 => rw [show t772.length = t759.length from (Kd.R_reads' HO_763002.out).1.symm]; exact (Kd.R_reads' HO_763002.out).2.1); rintro e w97 ⟨rfl, hb⟩; refine ⟨_, rfl, ?_⟩; have n0_ := zK (Kd.R_below (by (with_reducible repeat (first | apply zR | apply zV | apply zW)); exact HO_754002.out) hb); have n1_ := zK (Kd.R_below (by (with_reducible repeat (first | apply zR | apply zV | apply zW)); exact HO_763002.out) hb); have n2_ := zK (Kd.R_below (by (with_reducible repeat (first | apply zR | apply zV | apply zW)); exact HO776.out) hb); have n3_ := zK (Kd.R_below (by (with_reducible repeat (first | apply zR | apply zV | apply zW)); exact HO781.out) hb); have n4_ := zK (blk_below (g := gb753) (o := .cells #[.int .i64 t748, .int .i64 t749, .slice Ao27 t750.length co27] 65 (0, 0)) (by (with_reducible repeat (first | refine zM ?_ _ | refine zP ?_ | refine zQ ?_ _)); exact BK753.out) hb); have n5_ := zK (blk_below (g := gb762) (o := .cells #[.int .i64 t757, .int .i64 t758, .slice Ao34 t759.length co34] 65 (0, 0)) (by (with_reducible repeat (first | refine zM ?_ _ | refine zP ?_ | refine zQ ?_ _)); exact BK762.out) hb); have n6_ := zK (blk_below (g := gb782) (o := .cells #[.int .i64 t777, .int .i64 t778, .slice Ao93 t779.length co93] 65 (0, 0)) (by (with_reducible repeat (first | refine zM ?_ _ | refine zP ?_ | refine zQ ?_ _)); exact BK782.out) hb); have n7_ := zK (below_step (by repeat (first | (with_reducible first | exact HB.out | apply zA | apply zN | apply zD | refine below_set ?_ GE753.out | refine below_set ?_ GE762.out | refine below_set ?_ GE782.out) | exact HB.out)) hb); clear HO_754002; clear HO_763002; clear HO776; clear HO781; clear BK753; clear BK762; clear BK782; clear HB; have HO_754002 := n0_; have HO_763002 := n1_; have HO776 := n2_; have HO781 := n3_; have BK753 := n4_; have BK762 := n5_; have BK782 := n6_; have HB := n7_; clear n0_ n1_ n2_ n3_ n4_ n5_ n6_ n7_; (try clear hb); (try clear hb2); (try clear hk); (try clear hi)))
              go_ret
              exact ⟨by first | rfl | (simp [errW_none, errW_some] <;> rfl) | (simp [*, errW_none, errW_some] <;> rfl), by repeat (first | (with_reducible first | exact HB.out | apply zA | apply zN | apply zD | refine below_set ?_ GE753.out | refine below_set ?_ GE762.out | refine below_set ?_ GE782.out) | exact HB.out)⟩
             ·
              rw [if_neg c80] at H
              have c80b0 : (t784 == t771) = false := beq_eq_false_iff_ne.mpr c80
              have c80b1 : (t784 != t771) = true := bne_iff_ne.mpr c80
              exact absurd ((Option.some.inj H).trans hT_) (by decide)
           ·
            replace c60 := Bool.eq_false_iff.mpr c60
            subst c60
            have H1 : (some false) = some r := by rw [if_neg (show ¬ (false = true) by decide)] at H; exact H
            clear H
            have H := H1
            clear H1
            exact absurd ((Option.some.inj H).trans hT_) (by decide)
          ·
           rw [if_neg c56] at H
           have c56b0 : (t773 == t771) = false := beq_eq_false_iff_ne.mpr c56
           have c56b1 : (t773 != t771) = true := bne_iff_ne.mpr c56
           exact absurd ((Option.some.inj H).trans hT_) (by decide)
     ·
      replace c18 := Bool.eq_false_iff.mpr c18
      subst c18
      have H1 : (some false) = some r := by rw [if_neg (show ¬ (false = true) by decide)] at H; exact H
      clear H
      have H := H1
      clear H1
      exact absurd ((Option.some.inj H).trans hT_) (by decide)
    ·
     replace c15 := Bool.eq_false_iff.mpr c15
     subst c15
     have H1 : (some false) = some r := by rw [if_neg (show ¬ (false = true) by decide)] at H; exact H
     clear H
     have H := H1
     clear H1
     exact absurd ((Option.some.inj H).trans hT_) (by decide)

end Go.Proofs.YtjibadlbiapcmaaDoor.PX

namespace Go.Proofs.YtjibadlbiapcmaaDoorX
open Go Go.RowKit Go.Proofs.YtjibadlbiapcmaaDoorW.PrintWords Go.Proofs.YtjibadlbiapcmaaDoor.PX
open Go.Proofs.YtjibadlbiapcmaaDoor.PX.X (lessB lessB_irrefl lessB_trans lessB_eq bsF bsF_cut bsAt bsLt bsLt_at cmpE cmpB placeE aheadE insE offE resE)
set_option linter.unusedVariables false
theorem lessB_tot {a b : ByteArray} (h : ¬ lessB a b = true) (hn : a ≠ b) : lessB b a = true := by
  rw [lessB_eq, decide_eq_true_eq] at h ⊢
  refine Std.lt_of_le_of_ne (List.not_lt.1 h) (fun z => hn ?_)
  cases a; cases b
  simp only at z
  rw [Array.toList_inj] at z
  rw [z]
theorem lessB_asym {a b : ByteArray} (h : lessB a b = true) : ¬ lessB b a = true := fun z => by
  have := lessB_trans h z
  rw [lessB_irrefl] at this
  cases this
def ahead (s : ByteArray) (x : IEntry) : Bool := lessB x.f0 s
section
variable {l : List IEntry} (hp : l.Pairwise fun x y => leB x.f0 y.f0) (s : ByteArray)
include hp
theorem cut_le (h : Nat) (x : IEntry) (hx : l[h]? = some x) : ahead s x = true ↔ h < cnt (ahead s) l := by
  constructor
  · intro ha
    rcases Nat.lt_or_ge h (cnt (ahead s) l) with h1 | h1
    · exact h1
    · have hh := (List.getElem?_eq_some_iff.1 hx).1
      have hlt : cnt (ahead s) l < l.length := Nat.lt_of_le_of_lt h1 hh
      have hy := List.getElem?_eq_getElem hlt
      have hn := cnt_stop _ l _ hy
      rcases Nat.lt_or_ge (cnt (ahead s) l) h with h2 | h2
      · have h3 := List.pairwise_iff_getElem.1 hp _ _ hlt hh h2
        rw [(List.getElem?_eq_some_iff.1 hx).2] at h3
        have h4 : ahead s (l[cnt (ahead s) l]) = true := by
          rcases h3 with h3 | h3
          · show lessB _ _ = true
            rw [h3]; exact ha
          · exact lessB_trans h3 ha
        rw [hn] at h4
        cases h4
      · have e : h = cnt (ahead s) l := by omega
        subst e
        rw [hy] at hx
        rw [← Option.some.inj hx, hn] at ha
        cases ha
  · intro h1
    exact cnt_all _ l h x h1 hx
theorem bs_cut (m : Int) (id : ByteArray) (ho : ∀ x ∈ l, x.f0 ≠ s) : bsAt (cmpE ⟨s, 0, m, id⟩) l = cnt (ahead s) l := by
  unfold bsAt
  refine bsF_cut _ _ _ _ _ (Nat.zero_le _) (cnt_le _ l) (by omega) (fun h _ hh => ?_)
  have hx := List.getElem?_eq_getElem hh
  rw [bsLt_at _ l h _ hx, decide_eq_true_eq, ← cut_le hp s h _ hx]
  have hne : ¬ cmpB (l[h]).f0 s = 0 := fun z => ho _ (List.getElem_mem hh) (by
    have := (compare_zero _ _).1 z
    rw [← toList_eq, ← toList_eq] at this
    exact toList_iff.1 this)
  unfold cmpE
  rw [if_neg hne]
  exact compare_less _ _
theorem place_cut (m : Int) (id : ByteArray) (ho : ∀ x ∈ l, x.f0 ≠ s) : ∀ n, n ≤ l.length → cnt (ahead s) l ≤ n → placeE l ⟨s, 0, m, id⟩ n = cnt (ahead s) l
  | 0, _, h => by show 0 = _; omega
  | n + 1, hn, h => by
    have hlt : n < l.length := hn
    have hx : l[n]? = some l[n] := List.getElem?_eq_getElem hlt
    have hg : l.getD n z80 = l[n] := by rw [List.getD_eq_getElem?_getD, hx]; rfl
    have hne := ho _ (List.getElem_mem hlt)
    have hc := cut_le hp s n _ hx
    rw [placeE, hg]
    by_cases ha : ahead s l[n] = true
    · have h1 := hc.1 ha
      rw [if_neg]
      · omega
      · unfold aheadE
        rw [if_neg (lessB_asym ha), if_neg hne]
        decide
    · have h1 : cnt (ahead s) l ≤ n := by
        rcases Nat.lt_or_ge n (cnt (ahead s) l) with z | z
        · exact absurd (hc.2 z) ha
        · exact z
      rw [if_pos]
      · exact place_cut m id ho n (by omega) h1
      · unfold aheadE
        rw [if_pos (lessB_tot ha hne)]
end
theorem index_rising (l : List IEntry) (h : indexV l = 0) : l.Pairwise fun x y => leB x.f0 y.f0 := by
  have hc := (index_chain l h).2
  have key : ∀ j i, i < j → j < l.length → leB (entAt l i).f0 (entAt l j).f0 := by
    intro j
    induction j with
    | zero => intro i h1; exact absurd h1 (by omega)
    | succ j ih =>
      intro i h1 h2
      have hstep := behind_le (hc (j + 1) (by omega) h2)
      rw [Nat.add_sub_cancel] at hstep
      by_cases e : i = j
      · rw [e]; exact hstep
      · exact leB_trans (ih i (by omega) (by omega)) hstep
  rw [List.pairwise_iff_getElem]
  intro i j hi hj hij
  have := key j i hij hj
  rwa [entAt_get l i hi, entAt_get l j hj] at this
theorem offE_ne (l : List IEntry) (s : ByteArray) : ∀ x ∈ offE l s, x.f0 ≠ s := fun x hx => by
  have := (List.mem_filter.1 hx).2
  simpa using this
theorem offE_len (l : List IEntry) (s : ByteArray) : (offE l s).length ≤ l.length := List.length_filter_le _ _
theorem resE_eq (l : List IEntry) (h : indexV l = 0) (path : ByteArray) (mode : Int) (id : ByteArray) : resE l path mode id = if mode = 0 then offE l path else insE (offE l path) ⟨path, 0, mode, id⟩ := by
  have hp : (offE l path).Pairwise fun x y => leB x.f0 y.f0 := by
    unfold offE
    exact (index_rising l h).filter _
  unfold resE insE
  by_cases hm : mode = 0
  · rw [if_pos hm, if_pos hm]
  · rw [if_neg hm, if_neg hm, bs_cut hp path mode id (offE_ne l path), place_cut hp path mode id (offE_ne l path) _ (Nat.le_refl _) (cnt_le _ _)]
theorem spec_resolve_from (l : List IEntry) (path : ByteArray) (mode : Int) (id : ByteArray) (hl : l.length ≤ 200) : ∀ (d i : Nat) (out : List IEntry), i + d = l.length → out.length ≤ i → ∀ k, d < k →
    spec_l10Resolve.l0 k l path mode id out (i : Int) = some (if mode = 0 then out ++ offE (l.drop i) path else insE (out ++ offE (l.drop i) path) ⟨path, 0, mode, id⟩)
  | 0, i, out, hi, ho, k, hk => by
    obtain ⟨k, rfl⟩ : ∃ m, k = m + 1 := ⟨k - 1, by omega⟩
    rw [spec_l10Resolve.l0, if_neg (by omega), List.drop_eq_nil_of_le (by omega), show offE [] path = [] from rfl, List.append_nil]
    by_cases hm : mode = 0
    · rw [if_pos hm, if_pos hm]
    · rw [if_neg hm, if_neg hm]
      unfold spec_l10Put.f
      rw [if_pos (by omega)]
      rfl
  | d + 1, i, out, hi, ho, k, hk => by
    obtain ⟨k, rfl⟩ : ∃ m, k = m + 1 := ⟨k - 1, by omega⟩
    have hlt : i < l.length := by omega
    rw [spec_l10Resolve.l0, if_pos (by omega), if_pos (by omega), rd_entry, entAt_get l i hlt, wrap_in (by omega) (by omega), List.drop_eq_getElem_cons hlt]
    by_cases he : (l[i]).f0 = path
    · rw [if_pos (by rw [he]), show offE (l[i] :: l.drop (i + 1)) path = offE (l.drop (i + 1)) path from List.filter_cons_of_neg (by simp [he])]
      exact spec_resolve_from l path mode id hl d (i + 1) out (by omega) (by omega) k (by omega)
    · rw [if_neg (fun z => he (toList_iff.1 z)), if_pos (by omega), show offE (l[i] :: l.drop (i + 1)) path = l[i] :: offE (l.drop (i + 1)) path from List.filter_cons_of_pos (by simp [he])]
      have := spec_resolve_from l path mode id hl d (i + 1) (out ++ [l[i]]) (by omega) (by simp; omega) k (by omega)
      rw [List.append_assoc, List.singleton_append] at this
      exact this
theorem spec_resolve (l : List IEntry) (h : indexV l = 0) (path : ByteArray) (mode : Int) (id : ByteArray) (k : Nat) (hk : 200 < k) : spec_l10Resolve.f k l path mode id = some (resE l path mode id) := by
  have hl := (index_chain l h).1
  unfold spec_l10Resolve.f
  have := spec_resolve_from l path mode id hl l.length 0 [] (by omega) (Nat.le_refl _) k (by omega)
  rw [List.drop_zero, List.nil_append, ← resE_eq l h] at this
  exact this
def hasB : List ByteArray → ByteArray → Bool
  | [], _ => false
  | x :: l, s => if x = s then true else hasB l s
theorem hasB_pos : ∀ {l : List ByteArray} {s : ByteArray}, hasB l s = true → 0 < l.length
  | [], _, h => by cases h
  | _ :: _, _, _ => by simp
/-- The code of what a path is settled with. -/
def resCode (l : List IEntry) (path : ByteArray) (mode : Int) (id : ByteArray) : Int :=
  if hasB (X.clashS l) path = true then (if mode = 0 then (if id = ⟨#[]⟩ then 0 else 1) else (if modeOk mode = true then (if isIdOfM 1 id.data.toList = true then 0 else 1) else 3)) else 4
def resV (l : List IEntry) (path : ByteArray) (mode : Int) (id : ByteArray) : Int × Int × List IEntry :=
  if indexV l = 0 then (if resCode l path mode id = 0 then (0, 0, resE l path mode id) else (resCode l path mode id, 0, [])) else (indexV l, 0, [])
theorem has_from (l : List ByteArray) (s : ByteArray) (hl : l.length ≤ 1048576) : ∀ (d i : Nat), i + d = l.length → ∀ k, d < k → spec_l9Has.l0 k l s (i : Int) = some (hasB (l.drop i) s)
  | 0, i, hi, k, hk => by
    obtain ⟨k, rfl⟩ : ∃ m, k = m + 1 := ⟨k - 1, by omega⟩
    rw [spec_l9Has.l0, if_neg (by omega), List.drop_eq_nil_of_le (by omega)]
    rfl
  | d + 1, i, hi, k, hk => by
    obtain ⟨k, rfl⟩ : ∃ m, k = m + 1 := ⟨k - 1, by omega⟩
    have hlt : i < l.length := by omega
    have hr : rdOf ByteArray.empty l (i : Int) = l[i] := by
      show l.getD ((i : Int)).toNat _ = _
      rw [Int.toNat_natCast, List.getD_eq_getElem?_getD, List.getElem?_eq_getElem hlt, Option.getD_some]
    rw [spec_l9Has.l0, if_pos (by omega), if_pos (by omega), hr, wrap_in (by omega) (by omega), List.drop_eq_getElem_cons hlt]
    by_cases he : l[i] = s
    · rw [if_pos (by rw [he]), hasB, if_pos he]
    · rw [if_neg (fun z => he (toList_iff.1 z)), show ((i : Int) + 1) = ((i + 1 : Nat) : Int) by omega, has_from l s hl d (i + 1) (by omega) k (by omega), hasB, if_neg he]
theorem spec_has (l : List ByteArray) (s : ByteArray) (hl : l.length ≤ 1048576) (k : Nat) (hk : l.length < k) : spec_l9Has.f k l s = some (hasB l s) := by
  unfold spec_l9Has.f
  have := has_from l s hl l.length 0 (by omega) k hk
  rwa [List.drop_zero] at this
theorem idx_from (l : List ByteArray) (s : ByteArray) (hl : l.length ≤ 1048576) : ∀ (d i : Nat), i + d = l.length → ∀ k, d < k → ∃ r : Int, slices_Index_string_string.l0 k l s (l.length : Int) (i : Int) = some r ∧ decide (r ≥ 0) = hasB (l.drop i) s
  | 0, i, hi, k, hk => by
    obtain ⟨k, rfl⟩ : ∃ m, k = m + 1 := ⟨k - 1, by omega⟩
    refine ⟨-1, ?_, ?_⟩
    · rw [slices_Index_string_string.l0, if_neg (by omega)]
    · rw [List.drop_eq_nil_of_le (by omega)]
      rfl
  | d + 1, i, hi, k, hk => by
    obtain ⟨k, rfl⟩ : ∃ m, k = m + 1 := ⟨k - 1, by omega⟩
    have hlt : i < l.length := by omega
    have hr : rdOf ByteArray.empty l (i : Int) = l[i] := by
      show l.getD ((i : Int)).toNat _ = _
      rw [Int.toNat_natCast, List.getD_eq_getElem?_getD, List.getElem?_eq_getElem hlt, Option.getD_some]
    rw [List.drop_eq_getElem_cons hlt]
    by_cases he : l[i] = s
    · refine ⟨(i : Int), ?_, ?_⟩
      · rw [slices_Index_string_string.l0, if_pos (by omega), if_pos (by omega), if_pos (by omega), hr, if_pos (by rw [he])]
      · rw [hasB, if_pos he]
        exact decide_eq_true (by omega)
    · obtain ⟨r, h1, h2⟩ := idx_from l s hl d (i + 1) (by omega) k (by omega)
      refine ⟨r, ?_, ?_⟩
      · rw [slices_Index_string_string.l0, if_pos (by omega), if_pos (by omega), if_pos (by omega), hr, if_neg (fun z => he (toList_iff.1 z).symm), wrap_in (by omega) (by omega)]
        exact h1
      · rw [hasB, if_neg he]
        exact h2
theorem impl_has (l : List ByteArray) (s : ByteArray) (hl : l.length ≤ 1048576) (k : Nat) (hk : l.length < k) : slices_Contains_string_string.f k l s = some (hasB l s) := by
  obtain ⟨r, h1, h2⟩ := idx_from l s hl l.length 0 (by omega) k hk
  unfold slices_Contains_string_string.f slices_Index_string_string.f
  rw [show slices_Index_string_string.l0 k l s (l.length : Int) 0 = some r from h1, Option.bind_some, h2, List.drop_zero]
theorem codeIf_at (b : Bool) (c : Int) : impl_codeIf.f b c = some (if b = true then c else 0) := by
  unfold impl_codeIf.f
  cases b <;> rfl
theorem first3 (a b c : Int) (k : Nat) (hk : 4 ≤ k) : impl_firstCode.f k [a, b, c] = some (if a = 0 then (if b = 0 then c else b) else a) := by
  obtain ⟨k, rfl⟩ : ∃ m, k = m + 4 := ⟨k - 4, by omega⟩
  unfold impl_firstCode.f
  simp only [impl_firstCode.l0, List.length_cons, List.length_nil]
  have w0 : wrap64 ((0 : Int) + 1) = 1 := wrap_in (by omega) (by omega)
  have w1 : wrap64 ((1 : Int) + 1) = 2 := wrap_in (by omega) (by omega)
  have w2 : wrap64 ((2 : Int) + 1) = 3 := wrap_in (by omega) (by omega)
  simp only [w0, w1, w2, rd]
  by_cases ha : a = 0
  · subst ha
    by_cases hb : b = 0
    · subst hb
      by_cases hc : c = 0
      · subst hc; simp
      · simp [hc]
    · simp [hb]
  · simp [ha]
theorem empty_iff (id : ByteArray) : id.toList = ([] : List UInt8) ↔ id = ⟨#[]⟩ := by
  have h0 : (⟨#[]⟩ : ByteArray).toList = [] := by rw [toList_eq]
  exact ⟨fun h => toList_iff.1 (h.trans h0.symm), fun h => by rw [h]; exact h0⟩
theorem impl_code (l : List IEntry) (h : indexV l = 0) (path : ByteArray) (mode : Int) (id : ByteArray) (k : Nat) (hk : 204 < k) : impl_resolveCode.f k l path mode id = some (resCode l path mode id) := by
  have hl := (index_chain l h).1
  have hc := X.clashS_len l
  unfold impl_resolveCode.f resCode
  rw [impl_clashes l (by omega), Option.bind_some, compact_clash l h, impl_has _ _ (by omega) k (by omega), Option.bind_some, codeIf_at, Option.bind_some]
  by_cases hm : mode = 0
  · rw [if_pos hm, if_pos hm, codeIf_at, Option.bind_some]
    by_cases hi : id = ⟨#[]⟩
    · rw [if_pos ((empty_iff id).2 hi), if_pos hi, codeIf_at, Option.bind_some, first3 _ _ _ k (by omega), Option.bind_some]
      by_cases hh : hasB (X.clashS l) path = true
      · rw [if_pos hh]; simp [hh]
      · rw [if_neg hh]; simp [hh]
    · rw [if_neg (fun z => hi ((empty_iff id).1 z)), if_neg hi, codeIf_at, Option.bind_some, first3 _ _ _ k (by omega), Option.bind_some]
      by_cases hh : hasB (X.clashS l) path = true
      · rw [if_pos hh]; simp [hh]
      · rw [if_neg hh]; simp [hh]
  · rw [if_neg hm, if_neg hm, impl_mode, Option.bind_some, codeIf_at, Option.bind_some, show impl_isIdOf.f 1 id = _ from impl_isIdOf_tells 1 (by omega) id, Option.bind_some, codeIf_at, Option.bind_some, first3 _ _ _ k (by omega), Option.bind_some]
    by_cases hh : hasB (X.clashS l) path = true
    · rw [if_pos hh]
      cases modeOk mode <;> cases isIdOfM 1 id.data.toList <;> simp [hh]
    · rw [if_neg hh]
      simp [hh]
theorem impl_resolveV (l : List IEntry) (hl : l.length ≤ 1048576) (hs : iSmall l) (path : ByteArray) (mode : Int) (id : ByteArray) (k : Nat) (hk : 1048700 + l.length < k) : impl_ResolvePath.f (2 * k) l path mode id = some (resV l path mode id) := by
  unfold impl_ResolvePath.f resV
  rw [impl_index l hl hs k hk, Option.bind_some]
  by_cases h : indexV l = 0
  · rw [if_pos h, if_pos h, impl_code l h path mode id _ (by omega), Option.bind_some]
    by_cases hc : resCode l path mode id = 0
    · rw [if_pos hc, if_pos hc]
      have hpos : 0 < l.length := by
        unfold resCode at hc
        split at hc
        · rename_i hmem
          have := X.clashS_len l
          have := hasB_pos hmem
          omega
        · exact absurd hc (by decide)
      unfold impl_resolve.f
      rw [if_pos hpos, if_pos hl]
      rfl
    · rw [if_neg hc, if_neg hc]
  · rw [if_neg h, if_neg h]
theorem impl_resolveV_any (l : List IEntry) (hl : l.length ≤ 1048576) (hs : iSmall l) (path : ByteArray) (mode : Int) (id : ByteArray) (k : Nat) (hk : 2097402 + 2 * l.length < k) : impl_ResolvePath.f k l path mode id = some (resV l path mode id) := by
  have h := impl_resolveV l hl hs path mode id (k / 2) (by omega)
  rcases Nat.mod_two_eq_zero_or_one k with e | e
  · rwa [show 2 * (k / 2) = k by omega] at h
  · have := impl_ResolvePath.mono _ _ _ _ _ _ h
    rwa [show 2 * (k / 2) + 1 = k by omega] at this
theorem spec_resolveV (l : List IEntry) (hl : l.length ≤ 1048576) (hs : iSmall l) (path : ByteArray) (mode : Int) (id : ByteArray) (k : Nat) (hk : 1048700 + l.length < k) : spec_ResolvePath.f (2 * k) l path mode id = some (resV l path mode id) := by
  unfold spec_ResolvePath.f resV
  rw [spec_index l hl hs k hk, Option.bind_some]
  by_cases h : indexV l = 0
  · have hc := X.clashS_len l
    rw [if_pos h, if_pos h, spec_clashes l hl, Option.bind_some, spec_has _ _ (by omega) _ (by omega), Option.bind_some]
    have hj : ∀ b : Bool, spec_ResolvePath.j0 (2 * k) l path mode id b = some (if b = true then (3, 0, []) else if mode = 0 then (if id = ⟨#[]⟩ then (0, 0, resE l path mode id) else (1, 0, [])) else (if isIdOfM 1 id.data.toList = true then (0, 0, resE l path mode id) else (1, 0, []))) := by
      intro b
      obtain ⟨q, hq⟩ : ∃ q, 2 * k = q + 1 := ⟨2 * k - 1, by omega⟩
      rw [hq, spec_ResolvePath.j0, spec_resolve l h path mode id q (by omega), show spec_l6Is.f q id 1 = _ from spec_l6Is_tells 1 (by omega) id q (by omega)]
      cases b with
      | true => rfl
      | false =>
        rw [if_neg (show ¬ false = true by decide), if_neg (show ¬ false = true by decide)]
        by_cases hm : mode = 0
        · rw [if_pos hm, if_pos hm]
          by_cases hi : id = ⟨#[]⟩
          · rw [if_pos ((empty_iff id).2 hi), if_pos hi]; rfl
          · rw [if_neg (fun z => hi ((empty_iff id).1 z)), if_neg hi]
        · rw [if_neg hm, if_neg hm, Option.bind_some]
          cases isIdOfM 1 id.data.toList <;> rfl
    unfold resCode
    by_cases hh : hasB (X.clashS l) path = true
    · rw [if_pos hh, if_pos hh]
      by_cases hm : mode = 0
      · rw [if_pos hm, if_pos hm, hj, if_neg (by decide), if_pos hm]
        by_cases hi : id = ⟨#[]⟩
        · rw [if_pos hi, if_pos hi, if_pos rfl]
        · rw [if_neg hi, if_neg hi, if_neg (by decide)]
      · rw [if_neg hm, if_neg hm, spec_mode, Option.bind_some, hj, if_neg hm]
        cases modeOk mode <;> cases isIdOfM 1 id.data.toList <;> rfl
    · rw [if_neg hh, if_neg hh, if_neg (by decide)]
  · rw [if_neg h, if_neg h]
theorem resV_len (l : List IEntry) (path : ByteArray) (mode : Int) (id : ByteArray) : (resV l path mode id).2.2.length ≤ 201 := by
  unfold resV
  split
  · rename_i h
    have hl := (index_chain l h).1
    have ho := offE_len l path
    split
    · show (resE l path mode id).length ≤ 201
      unfold resE
      split
      · omega
      · rw [List.length_append, List.length_append, List.length_take, List.length_drop, List.length_singleton]
        have := X.bsAt_le (cmpE ⟨path, 0, mode, id⟩) (offE l path)
        omega
    · exact Nat.zero_le _
  · exact Nat.zero_le _
end Go.Proofs.YtjibadlbiapcmaaDoorX

namespace Go.Proofs.YtjibadlbiapcmaaDoorX
open Go Go.RowKit Go.Proofs.YtjibadlbiapcmaaDoorW.PrintWords Go.Proofs.YtjibadlbiapcmaaDoor.PX
set_option linter.unusedVariables false
theorem eqEntriesResult_same (c a : Int) (l : List IEntry) (hl : l.length ≤ 1048576) (k : Nat) (hk : l.length < k) : laws_eqEntriesResult.f k c a l c a l = some true := by
  unfold laws_eqEntriesResult.f
  rw [if_pos rfl, if_pos rfl, eqEntryS_same l hl k hk, Option.bind_some, if_pos rfl]
theorem conv_small {l : List LEntry} (h : ∀ x ∈ l, entrySmall x) : iSmall (l.map entryConv) := by
  intro x hx
  obtain ⟨y, hy, rfl⟩ := List.mem_map.1 hx
  exact (h y hy).1
theorem resolvePath_pure (l : List LEntry) (a1 : ByteArray) (a2 : Int) (a3 : ByteArray) (hl1 : l.length * 48 ≤ 140737488351232) (hl2 : ∀ x ∈ l, x.f0.size ≤ 140737488351232 ∧ (Go.Lit.int .i64 x.f1).wf = true ∧ (Go.Lit.int .i64 x.f2).wf = true ∧ x.f3.size ≤ 140737488351232) (h1 : a1.size ≤ 140737488351232) (h2 : (Go.Lit.int .i64 a2).wf = true) (h3 : a3.size ≤ 140737488351232) : ∃ k, laws_FnExactResolvePath.f k l a1 a2 a3 = some true := by
  obtain ⟨m, hm0⟩ : ∃ m, m = l.length + 1052810 := ⟨_, rfl⟩
  obtain ⟨K, hK⟩ : ∃ K, 2 * m = K + 1 := ⟨2 * m - 1, by omega⟩
  refine ⟨2 * m, ?_⟩
  unfold laws_FnExactResolvePath.f
  by_cases c1 : (a1.size : Int) > 1048576
  · rw [if_pos c1]
  rw [if_neg c1]
  by_cases c3 : (a3.size : Int) > 1048576
  · rw [if_pos c3]
  rw [if_neg c3]
  obtain ⟨r, hr, hq⟩ := szEntryS_tells l (by omega) (fun x hx => ⟨(hl2 x hx).1, (hl2 x hx).2.2.2⟩) 1048576 (by decide) (by decide) (2 * m) (by omega)
  rw [hr, Option.bind_some]
  by_cases c : r < 0
  · rw [if_pos c]
  obtain ⟨hn, hs⟩ := hq (by omega)
  have hm : (l.map entryConv).length = l.length := List.length_map _
  have hv := resV_len (l.map entryConv) a1 a2 a3
  have e1 := toEntryS_tells l hn (2 * m) (by omega)
  have e2 := spec_resolveV (l.map entryConv) (by omega) (conv_small hs) a1 a2 a3 m (by omega)
  have e3 := impl_resolveV (l.map entryConv) (by omega) (conv_small hs) a1 a2 a3 m (by omega)
  have e4 := eqEntryS_same (l.map entryConv) (by omega) (2 * m) (by omega)
  have e5 := markEntryS_tells (l.map entryConv) 1 (by omega) (2 * m) (by omega)
  obtain ⟨R, hR⟩ : ∃ R, R = resV (l.map entryConv) a1 a2 a3 := ⟨_, rfl⟩
  rw [← hR] at hv e2 e3
  have e6 := eqEntriesResult_same R.1 R.2.1 R.2.2 (by omega) (2 * m) (by omega)
  rw [if_neg c]
  simp only [e1, e2, e3, e4, e6, Option.bind_some, if_true]
  rw [show laws_markEntryS.f (2 * m) (l.map entryConv) 1 = _ from e5, Option.bind_some, if_neg (by omega)]
  rw [hK, laws_FnExactResolvePath.j0, if_neg (by decide)]
  have m1 := markEntryS_tells R.2.2 1 (by omega) K (by omega)
  have m2 := heldEntryS_tells R.2.2.length 1 (by omega) K (by omega)
  have e1' := toEntryS_tells l hn K (by omega)
  have e3' := impl_resolveV_any (l.map entryConv) (by omega) (conv_small hs) a1 a2 a3 K (by omega)
  rw [← hR] at e3'
  have e6' := eqEntriesResult_same R.1 R.2.1 R.2.2 (by omega) K (by omega)
  unfold laws_markEntriesResult.f laws_heldEntriesResult.f
  rw [show laws_markEntryS.f K R.2.2 1 = _ from m1]
  simp only [Option.bind_some]
  rw [show laws_heldEntryS.f K ((List.range R.2.2.length).map fun j => entryMark (1 + 4 * j)) 1 = _ from m2]
  simp only [Option.bind_some]
  rw [if_neg (by omega)]
  simp only [Option.bind_some]
  rw [if_neg (by omega)]
  simp only [e1', e3', e6', Option.bind_some, if_true]
  rw [if_neg (by omega)]
end Go.Proofs.YtjibadlbiapcmaaDoorX
