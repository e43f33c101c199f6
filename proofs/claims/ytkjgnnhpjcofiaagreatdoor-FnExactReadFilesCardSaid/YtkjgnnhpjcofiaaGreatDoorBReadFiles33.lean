/- Texts of this claim set one behind another by wip/bundle.py: PXf178, PXf126. -/
import Derived.Test.YtkjgnnhpjcofiaaGreatDoorBReadFiles4
import Derived.Test.YtkjgnnhpjcofiaaGreatDoorBReadFiles14
import Derived.Test.YtkjgnnhpjcofiaaGreatDoorBReadFiles29
import Derived.Test.YtkjgnnhpjcofiaaGreatDoorBReadFiles30
import Derived.Test.YtkjgnnhpjcofiaaGreatDoorBReadFiles26
namespace Go.Proofs.YtkjgnnhpjcofiaaGreatDoor.PX
open Go.RowKit Go.Proofs.YtkjgnnhpjcofiaaGreatDoorW.PrintWords Go.Proofs.YtkjgnnhpjcofiaaGreatDoorW.PrintLast Go.Proofs.YtkjgnnhpjcofiaaGreatDoorW.PrintMore
attribute [local go_sem] max2_int min2_int max_two min_two max_three min_three max_four min_four   -- for this text's walks alone
set_option linter.unusedVariables false
set_option linter.unusedSimpArgs false
def impl_TreeFault.l0 : Nat → List (S118) → List (S118) → Int → Int → Option (Int)
 | 0, _, _, _, _ => none
 | k + 1, x0, x8, x9, x10 => if x10 < x9 then (if 0 ≤ x10 then (if x10 < (x8.length : Int) then ((impl_NameFault.f k ((rd_T118 x8 x10).f0)).bind fun t253 => (if t253 = 0 then ((impl_within.f ((rd_T118 x8 x10).f1) 1 3).bind fun t254 => (if t254 = true then ((impl_kindAt.f ((rd_T118 x8 x10).f1)).bind fun t255 => ((impl_isIdOf.f t255 ((rd_T118 x8 x10).f2)).bind fun t256 => (if t256 = true then (if x10 > 0 then (if 0 ≤ (wrap64 (x10 - 1)) then (if (wrap64 (x10 - 1)) < (x0.length : Int) then (if ((Op.bytesLess (((rd_T118 x0 (wrap64 (x10 - 1))).f0).toList) (((rd_T118 x8 x10).f0).toList)) = true) then (impl_TreeFault.l0 k x0 x8 x9 (wrap64 (x10 + 1))) else (some 1)) else (none)) else (none)) else (impl_TreeFault.l0 k x0 x8 x9 (wrap64 (x10 + 1)))) else (some 1)))) else (some 3))) else (some 1))) else (none)) else (none)) else ((impl_treeText.f x0).bind fun t249 => ((impl_TextFault.f t249).bind fun t250 => (some t250)))
def impl_TreeFault.f (k : Nat) (l0 : List (S118)) : Option (Int) := if (l0.length : Int) > 100 then (some 2) else (impl_TreeFault.l0 k l0 l0 (l0.length : Int) 0)
def impl_TreeFault.T10 : Bool × List (List Nat × List Nat) := (true, [([], []), ([0], [0]), ([1], [1]), ([], []), ([3], [3]), ([2, 4, 2], [2, 4]), ([5], [5]), ([6, 5], [6]), ([7], [7]), ([8, 7], [7, 8]), ([9, 7, 7], [7, 9]), ([10], [10]), ([11, 10], [10, 11]), ([10], [10]), ([10], [10]), ([14, 10], [10, 14]), ([13, 15, 10], [10, 13, 15]), ([16, 10], [10, 16]), ([17, 10], [10, 17]), ([12, 18, 10], [10, 12, 18]), ([10, 19, 7], [7, 10, 19]), ([7, 20], [7, 20]), ([21, 10], [21])])
def impl_TreeFault.B10 : List Nat := [0, 1, 3, 0, 8, 31, 63, 127, 255, 511, 1023, 2047, 4095, 2047, 2047, 18431, 59391, 124927, 255999, 524287, 1048575, 2097151, 4194303]
theorem impl_TreeFault.tab10 : rtab .any (opsOf Tryz.f178 10) = impl_TreeFault.T10 := by kernel_rfl
theorem impl_TreeFault.bits10 : waitsOk impl_TreeFault.T10.2 impl_TreeFault.B10 = true := by kernel_rfl
set_option maxHeartbeats 8000000 in
set_option maxRecDepth 100000 in
theorem impl_TreeFault.calls (k : Nat) (A0 : Option Addr) (c0 : Nat) (l0 : List (S118)) (r : Int) (w : World) (hr0 : Kd.C k118 w A0 l0.length l0) (hc0 : l0.length ≤ c0) (h : impl_TreeFault.f k l0 = some r) :
  Calls Tryz.prog 178 #[.slice A0 l0.length c0] w fun e w' => e = .returned (.int .i64 r) ∧ Below w.heap.size w w' := by
 have hu118 := Tryz.underlying118
 have HR0 := zK hr0
 have HC0 := zK hc0
 clear hr0 hc0
 have HB := zK (Below.refl w.heap.size w)
 have H : (if (l0.length : Int) > 100 then (some 2) else (impl_TreeFault.l0 k l0 l0 (l0.length : Int) 0)) = some r := h
 clear h
 by_cases c2 : (l0.length : Int) > 100
 ·
  rw [if_pos c2] at H
  have c2b0 : decide (100 < (l0.length : Int)) = true := decide_eq_true c2
  have c2b1 : decide (100 < l0.length) = true := decide_eq_true zq7
  clear c2
  obtain rfl := Option.some.inj H
  go_enter Tryz.func178, Tryz.ntmps178
  go_wp2
  go_ret
  exact ⟨zq5, zq0⟩
 rw [if_neg c2] at H
 have c2b0 : decide (100 < (l0.length : Int)) = false := decide_eq_false c2
 have c2b1 : decide (100 < l0.length) = false := decide_eq_false zq7
 clear c2
 have H' := zK H
 clear H
 go_enter Tryz.func178, Tryz.ntmps178
 go_wp2
 go_loopg [10] k (fun kq v10 w' => ∃ (x10_1 : Int), v10 = .int .i64 x10_1 ∧ Aside0 (impl_TreeFault.l0 kq l0 l0 (l0.length : Int) x10_1 = some r) ∧ Aside0 (kq ≤ k) ∧ Aside0 (Below w.heap.size w w'))
 case atStart => exact ⟨(0), zq4, H', ⟨Nat.le_refl _⟩, ⟨by repeat (first | (with_reducible first | exact HB.out | apply zA | apply zN | apply zD) | exact HB.out)⟩⟩
 case round =>
  clear H'
  try clear c1
  try clear c2
  try clear c2b0
  try clear c2b1
  try clear p2
  obtain ⟨x10_1, rfl, HA, HK1, HB⟩ := hrel
  cases gk with
  | zero => exact absurd HA.out (by simp [impl_TreeFault.l0])
  | succ k1 =>
   have H := HA.out
   clear HA
   simp only [impl_TreeFault.l0] at H
   by_cases c3 : x10_1 < (l0.length : Int)
   ·
    rw [if_pos c3] at H
    have c3b0 : decide (x10_1 < (l0.length : Int)) = true := decide_eq_true c3
    clear c3
    by_cases c4 : 0 ≤ x10_1
    ·
     rw [if_pos c4] at H
     have c4b0 : decide (0 ≤ x10_1) = true := decide_eq_true c4
     clear c4
     by_cases c5 : x10_1 < (l0.length : Int)
     ·
      rw [if_pos c5] at H
      have c5b0 : decide (x10_1 < (l0.length : Int)) = true := decide_eq_true c5
      clear c5
      replace H := Option.bind_eq_some_iff.mp H
      obtain ⟨t253, A60, H⟩ := H
      replace H : (if t253 = 0 then ((impl_within.f ((rd_T118 l0 x10_1).f1) 1 3).bind fun t254 => (if t254 = true then ((impl_kindAt.f ((rd_T118 l0 x10_1).f1)).bind fun t255 => ((impl_isIdOf.f t255 ((rd_T118 l0 x10_1).f2)).bind fun t256 => (if t256 = true then (if x10_1 > 0 then (if 0 ≤ (wrap64 (x10_1 - 1)) then (if (wrap64 (x10_1 - 1)) < (l0.length : Int) then (if ((Op.bytesLess (((rd_T118 l0 (wrap64 (x10_1 - 1))).f0).toList) (((rd_T118 l0 x10_1).f0).toList)) = true) then (impl_TreeFault.l0 k1 l0 l0 (l0.length : Int) (wrap64 (x10_1 + 1))) else (some 1)) else (none)) else (none)) else (impl_TreeFault.l0 k1 l0 l0 (l0.length : Int) (wrap64 (x10_1 + 1)))) else (some 1)))) else (some 3))) else (some 1)) = some r := H
      have A6 := zK A60
      clear A60
      by_cases c7 : t253 = 0
      ·
       rw [if_pos c7] at H
       have c7b0 : (t253 == 0) = true := beq_iff_eq.mpr c7
       have c7b1 : (t253 != 0) = false := bne_eq_false_iff_eq.mpr c7
       clear c7
       replace H := Option.bind_eq_some_iff.mp H
       obtain ⟨t254, A80, H⟩ := H
       replace H : (if t254 = true then ((impl_kindAt.f ((rd_T118 l0 x10_1).f1)).bind fun t255 => ((impl_isIdOf.f t255 ((rd_T118 l0 x10_1).f2)).bind fun t256 => (if t256 = true then (if x10_1 > 0 then (if 0 ≤ (wrap64 (x10_1 - 1)) then (if (wrap64 (x10_1 - 1)) < (l0.length : Int) then (if ((Op.bytesLess (((rd_T118 l0 (wrap64 (x10_1 - 1))).f0).toList) (((rd_T118 l0 x10_1).f0).toList)) = true) then (impl_TreeFault.l0 k1 l0 l0 (l0.length : Int) (wrap64 (x10_1 + 1))) else (some 1)) else (none)) else (none)) else (impl_TreeFault.l0 k1 l0 l0 (l0.length : Int) (wrap64 (x10_1 + 1)))) else (some 1)))) else (some 3)) = some r := H
       have A8 := zK A80
       clear A80
       by_cases c9 : t254 = true
       ·
        subst c9
        have H1 : ((impl_kindAt.f ((rd_T118 l0 x10_1).f1)).bind fun t255 => ((impl_isIdOf.f t255 ((rd_T118 l0 x10_1).f2)).bind fun t256 => (if t256 = true then (if x10_1 > 0 then (if 0 ≤ (wrap64 (x10_1 - 1)) then (if (wrap64 (x10_1 - 1)) < (l0.length : Int) then (if ((Op.bytesLess (((rd_T118 l0 (wrap64 (x10_1 - 1))).f0).toList) (((rd_T118 l0 x10_1).f0).toList)) = true) then (impl_TreeFault.l0 k1 l0 l0 (l0.length : Int) (wrap64 (x10_1 + 1))) else (some 1)) else (none)) else (none)) else (impl_TreeFault.l0 k1 l0 l0 (l0.length : Int) (wrap64 (x10_1 + 1)))) else (some 1)))) = some r := by rw [if_pos rfl] at H; exact H
        clear H
        have H := H1
        clear H1
        replace H := Option.bind_eq_some_iff.mp H
        obtain ⟨t255, A100, H⟩ := H
        replace H : ((impl_isIdOf.f t255 ((rd_T118 l0 x10_1).f2)).bind fun t256 => (if t256 = true then (if x10_1 > 0 then (if 0 ≤ (wrap64 (x10_1 - 1)) then (if (wrap64 (x10_1 - 1)) < (l0.length : Int) then (if ((Op.bytesLess (((rd_T118 l0 (wrap64 (x10_1 - 1))).f0).toList) (((rd_T118 l0 x10_1).f0).toList)) = true) then (impl_TreeFault.l0 k1 l0 l0 (l0.length : Int) (wrap64 (x10_1 + 1))) else (some 1)) else (none)) else (none)) else (impl_TreeFault.l0 k1 l0 l0 (l0.length : Int) (wrap64 (x10_1 + 1)))) else (some 1))) = some r := H
        have A10 := zK A100
        clear A100
        replace H := Option.bind_eq_some_iff.mp H
        obtain ⟨t256, A110, H⟩ := H
        replace H : (if t256 = true then (if x10_1 > 0 then (if 0 ≤ (wrap64 (x10_1 - 1)) then (if (wrap64 (x10_1 - 1)) < (l0.length : Int) then (if ((Op.bytesLess (((rd_T118 l0 (wrap64 (x10_1 - 1))).f0).toList) (((rd_T118 l0 x10_1).f0).toList)) = true) then (impl_TreeFault.l0 k1 l0 l0 (l0.length : Int) (wrap64 (x10_1 + 1))) else (some 1)) else (none)) else (none)) else (impl_TreeFault.l0 k1 l0 l0 (l0.length : Int) (wrap64 (x10_1 + 1)))) else (some 1)) = some r := H
        have A11 := zK A110
        clear A110
        by_cases c12 : t256 = true
        ·
         subst c12
         have H1 : (if x10_1 > 0 then (if 0 ≤ (wrap64 (x10_1 - 1)) then (if (wrap64 (x10_1 - 1)) < (l0.length : Int) then (if ((Op.bytesLess (((rd_T118 l0 (wrap64 (x10_1 - 1))).f0).toList) (((rd_T118 l0 x10_1).f0).toList)) = true) then (impl_TreeFault.l0 k1 l0 l0 (l0.length : Int) (wrap64 (x10_1 + 1))) else (some 1)) else (none)) else (none)) else (impl_TreeFault.l0 k1 l0 l0 (l0.length : Int) (wrap64 (x10_1 + 1)))) = some r := by rw [if_pos rfl] at H; exact H
         clear H
         have H := H1
         clear H1
         by_cases c13 : x10_1 > 0
         ·
          rw [if_pos c13] at H
          have c13b0 : decide (0 < x10_1) = true := decide_eq_true c13
          clear c13
          obtain ⟨ji14, hji14⟩ : ∃ j_ : Int, (wrap64 (x10_1 - 1)) = j_ := ⟨_, rfl⟩
          replace H : (if 0 ≤ (ji14) then (if (ji14) < (l0.length : Int) then (if ((Op.bytesLess (((rd_T118 l0 (ji14)).f0).toList) (((rd_T118 l0 x10_1).f0).toList)) = true) then (impl_TreeFault.l0 k1 l0 l0 (l0.length : Int) (wrap64 (x10_1 + 1))) else (some 1)) else (none)) else (none)) = some r := by first | (rw [hji14] at H; exact H) | (simp only [hji14] at H ⊢; exact H)
          (try rw [hji14] at A6)
          (try rw [hji14] at A8)
          (try rw [hji14] at A10)
          (try rw [hji14] at A11)
          have hji14w : (IntKind.i64.wrap (x10_1 - 1)) = ji14 := (i64_w _).trans hji14
          by_cases c15 : 0 ≤ (ji14)
          ·
           rw [if_pos c15] at H
           have c15b0 : decide (0 ≤ (ji14)) = true := decide_eq_true c15
           clear c15
           by_cases c16 : (ji14) < (l0.length : Int)
           ·
            rw [if_pos c16] at H
            have c16b0 : decide ((ji14) < (l0.length : Int)) = true := decide_eq_true c16
            clear c16
            by_cases c17 : ((Op.bytesLess (((rd_T118 l0 (ji14)).f0).toList) (((rd_T118 l0 x10_1).f0).toList)) = true)
            ·
             rw [if_pos c17] at H
             have c17b0 : (Op.bytesLess (((rd_T118 l0 (ji14)).f0).toList) (((rd_T118 l0 x10_1).f0).toList)) = true := c17
             clear c17
             have H' := zK H
             clear H
             have p251 : 0 ≤ (x10_1 : Int) := zX zq2
             have q251 : x10_1 < (l0.length : Int) := zX zq2
             obtain ⟨ad251, e251, hx251_0, hx251_1, hx251_2⟩ := at_T118 HR0.out x10_1 p251 q251
             cases e251
             replace hx251_0 := (HB.out.cell (zL w _ hx251_0)).trans hx251_0
             replace hx251_1 := (HB.out.cell (zL w _ hx251_1)).trans hx251_1
             replace hx251_2 := (HB.out.cell (zL w _ hx251_2)).trans hx251_2
             replace p251 := eq_true p251
             replace q251 := eq_true q251
             try go_wp2_with (first | ((with_reducible refine gate_dst (N := 4) rfl ?_); refine box_event ?hg (N := 4) ?hd (cs := #[.string (⟨#[]⟩ : ByteArray), .int .i64 0, .string (⟨#[]⟩ : ByteArray)]) (t := 118) ?hr ?_; (case hd => rfl); (case hg => rfl); (case hr => first | (go_simp; done) | (go_simp; rfl)); intro gb252 hg w18 hbox hb; have n0_ := zK (below_step zq0 hb); have n1_ := zK (hbox); have n2_ := zK ((by rw [hg]; exact (below_size zq0) : w.heap.size ≤ gb252)); have n3_ := zK ((by rw [hg]; exact (below_size zq0) : w.heap.size ≤ gb252)); clear HB; have HB := n0_; have BK252 := n1_; have GW252 := n2_; have GE252 := n3_; clear n0_ n1_ n2_ n3_; clear hb hbox hg; have hcz19_0 : w18.cell? ⟨gb252, 0, none⟩ = some (.string (⟨#[]⟩ : ByteArray)) := (blk_cell BK252.out 0).trans rfl; have hcz19_1 : w18.cell? ⟨gb252, 1, none⟩ = some (.int .i64 0) := (blk_cell BK252.out 1).trans rfl; have hcz19_2 : w18.cell? ⟨gb252, 2, none⟩ = some (.string (⟨#[]⟩ : ByteArray)) := (blk_cell BK252.out 2).trans rfl; have hfz19_0 := blk_frozen BK252.out 0; have hfz19_1 := blk_frozen BK252.out 1; have hfz19_2 := blk_frozen BK252.out 2) | ((with_reducible refine gate_callee (f := 140) rfl ?_); refine goesL_ (some 18) rfl rfl Tryz.func140 zq3 rfl #[.string ((rd_T118 l0 x10_1).f0)] rfl zq1 ?_; (with_reducible refine (impl_NameFault.calls k1 ((rd_T118 l0 x10_1).f0) t253 _ A6.out).mono ?_); rintro e w' ⟨rfl, ⟨nd, rfl⟩⟩; refine ⟨_, rfl, ?_⟩) | ((with_reducible refine gate_callee (f := 67) rfl ?_); refine goesL_ (some 23) rfl rfl Tryz.func67 zq3 rfl #[.int .i64 ((rd_T118 l0 x10_1).f1), .int .i64 1, .int .i64 3] rfl zq1 ?_; (with_reducible refine (impl_within.calls ((rd_T118 l0 x10_1).f1) 1 3 true _ A8.out).mono ?_); rintro e w' ⟨rfl, ⟨nd, rfl⟩⟩; refine ⟨_, rfl, ?_⟩))
             have n0_ : Aside0 ((((w18.setCell ⟨gb252, 0, none⟩ (.string ((rd_T118 l0 x10_1).f0))).setCell ⟨gb252, 1, none⟩ (.int .i64 ((rd_T118 l0 x10_1).f1))).setCell ⟨gb252, 2, none⟩ (.string ((rd_T118 l0 x10_1).f2))).heap[gb252]? = some (.cells #[.string ((rd_T118 l0 x10_1).f0), .int .i64 ((rd_T118 l0 x10_1).f1), .string ((rd_T118 l0 x10_1).f2)] 118 (0, 0))) := ⟨by (with_reducible repeat (first | refine zM ?_ _ | refine zP ?_ | refine zQ ?_ _)); refine blk_put (cs := #[.string ((rd_T118 l0 x10_1).f0), .int .i64 ((rd_T118 l0 x10_1).f1), .string (⟨#[]⟩ : ByteArray)]) ?_ 2 _ rfl; (with_reducible repeat (first | refine zM ?_ _ | refine zP ?_ | refine zQ ?_ _)); refine blk_put (cs := #[.string ((rd_T118 l0 x10_1).f0), .int .i64 0, .string (⟨#[]⟩ : ByteArray)]) ?_ 1 _ rfl; (with_reducible repeat (first | refine zM ?_ _ | refine zP ?_ | refine zQ ?_ _)); refine blk_put (cs := #[.string (⟨#[]⟩ : ByteArray), .int .i64 0, .string (⟨#[]⟩ : ByteArray)]) ?_ 0 _ rfl; (with_reducible repeat (first | refine zM ?_ _ | refine zP ?_ | refine zQ ?_ _)); exact BK252.out⟩
             have n1_ : Aside0 (Below w.heap.size w (((w18.setCell ⟨gb252, 0, none⟩ (.string ((rd_T118 l0 x10_1).f0))).setCell ⟨gb252, 1, none⟩ (.int .i64 ((rd_T118 l0 x10_1).f1))).setCell ⟨gb252, 2, none⟩ (.string ((rd_T118 l0 x10_1).f2)))) := ⟨by repeat (first | (with_reducible first | exact HB.out | apply zA | apply zN | apply zD | refine below_set ?_ GE252.out) | exact HB.out)⟩
             (try clear BK252)
             (try clear HB)
             generalize (((w18.setCell ⟨gb252, 0, none⟩ (.string ((rd_T118 l0 x10_1).f0))).setCell ⟨gb252, 1, none⟩ (.int .i64 ((rd_T118 l0 x10_1).f1))).setCell ⟨gb252, 2, none⟩ (.string ((rd_T118 l0 x10_1).f2))) = w20 at n0_ n1_ ⊢
             have BK252 := n0_
             have HB := n1_
             clear n0_ n1_
             (try (rw [drewN_self w20]; generalize hq_ : World.drewN w20 _ = w20; have n0_ : Aside0 (w20.heap[gb252]? = some (.cells #[.string ((rd_T118 l0 x10_1).f0), .int .i64 ((rd_T118 l0 x10_1).f1), .string ((rd_T118 l0 x10_1).f2)] 118 (0, 0))) := ⟨by rw [← hq_]; exact (by (with_reducible repeat (first | refine zM ?_ _ | refine zP ?_ | refine zQ ?_ _)); exact BK252.out)⟩; have n1_ : Aside0 (Below w.heap.size w w20) := ⟨by rw [← hq_]; exact (by repeat (first | (with_reducible first | exact HB.out | apply zA | apply zN | apply zD | refine below_set ?_ GE252.out) | exact HB.out))⟩; clear BK252 HB hq_; have BK252 := n0_; have HB := n1_; clear n0_ n1_))
             have n0_ := zK (zP BK252.out)
             have n1_ := zK (zD HB.out)
             clear BK252
             clear HB
             have BK252 := n0_
             have HB := n1_
             clear n0_ n1_
             have p257 : 0 ≤ ((ji14) : Int) := zX zq2
             have q257 : (ji14) < (l0.length : Int) := zX zq2
             obtain ⟨ad257, e257, hx257_0, hx257_1, hx257_2⟩ := at_T118 HR0.out (ji14) p257 q257
             have hw257_2 := hx257_2
             have hw257_1 := hx257_1
             have hw257_0 := hx257_0
             obtain rfl : ad251 = ad257 := (by injection e257)
             replace hx257_0 := (HB.out.cell (zL w _ hx257_0)).trans hx257_0
             replace hx257_1 := (HB.out.cell (zL w _ hx257_1)).trans hx257_1
             replace hx257_2 := (HB.out.cell (zL w _ hx257_2)).trans hx257_2
             replace p257 := eq_true p257
             replace q257 := eq_true q257
             refine start_ (n := 23) (S := fun w' => w'.cell? ⟨gb252, 0, none⟩ = some (.string ((rd_T118 l0 x10_1).f0)) ∧ w'.cell? ⟨gb252, 1, none⟩ = some (.int .i64 ((rd_T118 l0 x10_1).f1)) ∧ w'.cell? ⟨gb252, 2, none⟩ = some (.string ((rd_T118 l0 x10_1).f2)) ∧ w'.cell? (ad251.add (((ji14)).toNat * 3)) = some (.string ((rd_T118 l0 (ji14)).f0)) ∧ w'.cell? ⟨(ad251.add (((ji14)).toNat * 3)).block, (ad251.add (((ji14)).toNat * 3)).off + 1, none⟩ = some (.int .i64 ((rd_T118 l0 (ji14)).f1)) ∧ w'.cell? ⟨(ad251.add (((ji14)).toNat * 3)).block, (ad251.add (((ji14)).toNat * 3)).off + 2, none⟩ = some (.string ((rd_T118 l0 (ji14)).f2))) (ds := []) #[zF,zF,zF,zF,zF,zF,zF,zF,zF,zF,zF,zF,zF,zF,zF,zF,zF,zF,zF,zF,zF,zF,zF] zq3 rfl rfl ⟨(blk_cell BK252.out 0).trans rfl, (blk_cell BK252.out 1).trans rfl, (blk_cell BK252.out 2).trans rfl, ((HB.out.cell (zL w _ hw257_0)).trans hw257_0), ((HB.out.cell (zL w _ hw257_1)).trans hw257_1), ((HB.out.cell (zL w _ hw257_2)).trans hw257_2)⟩ (fun hHeld => ?_); refine with_tabW impl_TreeFault.tab10 impl_TreeFault.bits10 (fun HT_ HW_ => ?_)
             generalize w20.drew = w21 at BK252 HB hx257_0 hx257_1 hx257_2 hHeld ⊢
             refine pure_ (i := 0) (N := some 26) (v := ?_) (a' := ?_) #[zB,zF,zF,zF,zF,zF,zF,zF,zF,zF,zF,zF,zF,zF,zF,zF,zF,zF,zF,zF,zF,zF,zF] rfl rfl (any_of HT_.out zq3) (fun _ _ _ h => h) (Or.inl ⟨by rfl, ?_⟩) ?_ ?_
             rotate_left
             ·
              intro w'
              go_simp
              with_reducible rfl
             rotate_left
             ·
              simp only [Act.put, zS, zT, zU, i64_w, i32_w]
              rfl
             refine pure_ (i := 3) (N := some 29) (v := ?_) (a' := ?_) #[zB,zF,zF,zB,zF,zF,zF,zF,zF,zF,zF,zF,zF,zF,zF,zF,zF,zF,zF,zF,zF,zF,zF] rfl rfl (any_of HT_.out zq3) (fun _ _ _ h => h) (Or.inl ⟨by rfl, ?_⟩) ?_ ?_
             rotate_left
             ·
              intro w'
              go_simp
              with_reducible rfl
             rotate_left
             ·
              simp only [Act.put, zS, zT, zU, i64_w, i32_w]
              rfl
             refine take_ (i := 1) (N := some 27) (v := ?_) (a' := ?_) #[zB,zB,zF,zB,zF,zF,zF,zF,zF,zF,zF,zF,zF,zF,zF,zF,zF,zF,zF,zF,zF,zF,zF] rfl rfl (take_ofW HT_.out HW_.out zq3) (fun _ _ _ h => h) (Or.inl ⟨by rfl, ?_⟩) hHeld ?_ ?_
             rotate_left
             ·
              rintro w' ⟨s0, s1, s2, s3, s4, s5⟩
              go_simp
              with_reducible rfl
             rotate_left
             ·
              simp only [Act.put, zS, zT, zU, i64_w, i32_w]
              rfl
             refine take_ (i := 4) (N := some 30) (v := ?_) (a' := ?_) #[zB,zB,zF,zB,zB,zF,zF,zF,zF,zF,zF,zF,zF,zF,zF,zF,zF,zF,zF,zF,zF,zF,zF] rfl rfl (take_ofW HT_.out HW_.out zq3) (fun _ _ _ h => h) (Or.inl ⟨by rfl, ?_⟩) hHeld ?_ ?_
             rotate_left
             ·
              rintro w' ⟨s0, s1, s2, s3, s4, s5⟩
              go_simp
              with_reducible rfl
             rotate_left
             ·
              simp only [Act.put, zS, zT, zU, i64_w, i32_w]
              rfl
             refine one_ (i := 2) (N := some 28) #[zB,zB,zB,zB,zB,zF,zF,zF,zF,zF,zF,zF,zF,zF,zF,zF,zF,zF,zF,zF,zF,zF,zF] rfl rfl (one_of HT_.out zq3) zq13 (fun K hK => ?_)
             refine goes_ Tryz.func235 zq3 rfl #[.int .i64 ((rd_T118 l0 x10_1).f1)] zq28 rfl rfl zq1 ?_
             with_reducible refine (impl_kindAt.calls ((rd_T118 l0 x10_1).f1) t255 _ A10.out).mono ?_
             rintro e w' ⟨rfl, ⟨nd, rfl⟩⟩
             refine ⟨_, rfl, ?_⟩
             refine hK.out _ _ ⟨(blk_cell BK252.out 0).trans rfl, (blk_cell BK252.out 1).trans rfl, (blk_cell BK252.out 2).trans rfl, ((HB.out.cell (zL w _ hw257_0)).trans hw257_0), ((HB.out.cell (zL w _ hw257_1)).trans hw257_1), ((HB.out.cell (zL w _ hw257_2)).trans hw257_2)⟩ (fun hHeld => ?_)
             clear hK K
             refine norm_ (a' := ?_) ?_ ?_
             rotate_left
             ·
              show Act.put _ (some 28) _ = _
              simp only [Act.put, zS, zT, zU, i64_w, i32_w]
              rfl
             refine one_ (i := 5) (N := some 31) #[zB,zB,zB,zB,zB,zB,zF,zF,zF,zF,zF,zF,zF,zF,zF,zF,zF,zF,zF,zF,zF,zF,zF] rfl rfl (one_of HT_.out zq3) zq13 (fun K hK => ?_)
             refine goes_ Tryz.func90 zq3 rfl #[.int .i64 t255, .string ((rd_T118 l0 x10_1).f2)] zq28 rfl rfl zq1 ?_
             with_reducible refine (impl_isIdOf.calls t255 ((rd_T118 l0 x10_1).f2) true _ A11.out).mono ?_
             rintro e w22 ⟨rfl, hb⟩
             refine ⟨_, rfl, ?_⟩
             have n0_ := zK (blk_below (g := gb252) (o := .cells #[.string ((rd_T118 l0 x10_1).f0), .int .i64 ((rd_T118 l0 x10_1).f1), .string ((rd_T118 l0 x10_1).f2)] 118 (0, 0)) (by (with_reducible repeat (first | refine zM ?_ _ | refine zP ?_ | refine zQ ?_ _)); exact BK252.out) hb)
             have n1_ := zK (below_step (by repeat (first | (with_reducible first | exact HB.out | apply zA | apply zN | apply zD | refine below_set ?_ GE252.out) | exact HB.out)) hb)
             clear BK252
             clear HB
             have BK252 := n0_
             have HB := n1_
             clear n0_ n1_
             (try clear hb)
             (try clear hb2)
             (try clear hk)
             (try clear hi)
             refine hK.out _ _ ⟨(blk_cell BK252.out 0).trans rfl, (blk_cell BK252.out 1).trans rfl, (blk_cell BK252.out 2).trans rfl, ((HB.out.cell (zL w _ hw257_0)).trans hw257_0), ((HB.out.cell (zL w _ hw257_1)).trans hw257_1), ((HB.out.cell (zL w _ hw257_2)).trans hw257_2)⟩ (fun hHeld => ?_)
             clear hK K
             refine norm_ (a' := ?_) ?_ ?_
             rotate_left
             ·
              show Act.put _ (some 31) _ = _
              simp only [Act.put, zS, zT, zU, i64_w, i32_w]
              rfl
             refine pure_ (i := 6) (N := some 32) (v := ?_) (a' := ?_) #[zB,zB,zB,zB,zB,zB,zB,zF,zF,zF,zF,zF,zF,zF,zF,zF,zF,zF,zF,zF,zF,zF,zF] rfl rfl (any_of HT_.out zq3) (fun _ _ _ h => h) (Or.inl ⟨by rfl, ?_⟩) ?_ ?_
             rotate_left
             ·
              intro w'
              go_simp
              with_reducible rfl
             rotate_left
             ·
              simp only [Act.put, zS, zT, zU, i64_w, i32_w]
              rfl
             refine pure_ (i := 7) (N := some 33) (v := ?_) (a' := ?_) #[zB,zB,zB,zB,zB,zB,zB,zB,zF,zF,zF,zF,zF,zF,zF,zF,zF,zF,zF,zF,zF,zF,zF] rfl rfl (any_of HT_.out zq3) (fun _ _ _ h => h) (Or.inl ⟨by rfl, ?_⟩) ?_ ?_
             rotate_left
             ·
              intro w'
              go_simp
              with_reducible rfl
             rotate_left
             ·
              simp only [Act.put, zS, zT, zU, i64_w, i32_w]
              rfl
             refine pure_ (i := 8) (N := some 34) (v := ?_) (a' := ?_) #[zB,zB,zB,zB,zB,zB,zB,zB,zB,zF,zF,zF,zF,zF,zF,zF,zF,zF,zF,zF,zF,zF,zF] rfl rfl (any_of HT_.out zq3) (fun _ _ _ h => h) (Or.inl ⟨by rfl, ?_⟩) ?_ ?_
             rotate_left
             ·
              intro w'
              go_simp
              with_reducible rfl
             rotate_left
             ·
              simp only [Act.put, zS, zT, zU, i64_w, i32_w]
              rfl
             refine pure_ (i := 9) (N := some 35) (v := ?_) (a' := ?_) #[zB,zB,zB,zB,zB,zB,zB,zB,zB,zB,zF,zF,zF,zF,zF,zF,zF,zF,zF,zF,zF,zF,zF] rfl rfl (any_of HT_.out zq3) (fun _ _ _ h => h) (Or.inl ⟨by rfl, ?_⟩) ?_ ?_
             rotate_left
             ·
              intro w'
              go_simp
              with_reducible rfl
             rotate_left
             ·
              simp only [Act.put, zS, zT, zU, i64_w, i32_w]
              rfl
             refine pure_ (i := 10) (N := some 36) (v := ?_) (a' := ?_) #[zB,zB,zB,zB,zB,zB,zB,zB,zB,zB,zB,zF,zF,zF,zF,zF,zF,zF,zF,zF,zF,zF,zF] rfl rfl (any_of HT_.out zq3) (fun _ _ _ h => h) (Or.inl ⟨by rfl, ?_⟩) ?_ ?_
             rotate_left
             ·
              intro w'
              go_simp
              with_reducible rfl
             rotate_left
             ·
              simp only [Act.put, zS, zT, zU, i64_w, i32_w]
              rfl
             refine pure_ (i := 11) (N := some 37) (v := ?_) (a' := ?_) #[zB,zB,zB,zB,zB,zB,zB,zB,zB,zB,zB,zB,zF,zF,zF,zF,zF,zF,zF,zF,zF,zF,zF] rfl rfl (any_of HT_.out zq3) (fun _ _ _ h => h) (Or.inl ⟨by rfl, ?_⟩) ?_ ?_
             rotate_left
             ·
              intro w'
              go_simp
              with_reducible rfl
             rotate_left
             ·
              simp only [Act.put, zS, zT, zU, i64_w, i32_w]
              rfl
             refine pure_ (i := 13) (N := some 39) (v := ?_) (a' := ?_) #[zB,zB,zB,zB,zB,zB,zB,zB,zB,zB,zB,zB,zF,zB,zF,zF,zF,zF,zF,zF,zF,zF,zF] rfl rfl (any_of HT_.out zq3) (fun _ _ _ h => h) (Or.inl ⟨by rfl, ?_⟩) ?_ ?_
             rotate_left
             ·
              intro w'
              go_simp
              with_reducible rfl
             rotate_left
             ·
              simp only [Act.put, zS, zT, zU, i64_w, i32_w]
              rfl
             refine pure_ (i := 14) (N := some 40) (v := ?_) (a' := ?_) #[zB,zB,zB,zB,zB,zB,zB,zB,zB,zB,zB,zB,zF,zB,zB,zF,zF,zF,zF,zF,zF,zF,zF] rfl rfl (any_of HT_.out zq3) (fun _ _ _ h => h) (Or.inl ⟨by rfl, ?_⟩) ?_ ?_
             rotate_left
             ·
              intro w'
              go_simp
              with_reducible rfl
             rotate_left
             ·
              simp only [Act.put, zS, zT, zU, i64_w, i32_w]
              rfl
             refine pure_ (i := 15) (N := some 41) (v := ?_) (a' := ?_) #[zB,zB,zB,zB,zB,zB,zB,zB,zB,zB,zB,zB,zF,zB,zB,zB,zF,zF,zF,zF,zF,zF,zF] rfl rfl (any_of HT_.out zq3) (fun _ _ _ h => h) (Or.inl ⟨by rfl, ?_⟩) ?_ ?_
             rotate_left
             ·
              intro w'
              go_simp
              with_reducible rfl
             rotate_left
             ·
              simp only [Act.put, zS, zT, zU, i64_w, i32_w]
              rfl
             refine pure_ (i := 16) (N := some 42) (v := ?_) (a' := ?_) #[zB,zB,zB,zB,zB,zB,zB,zB,zB,zB,zB,zB,zF,zB,zB,zB,zB,zF,zF,zF,zF,zF,zF] rfl rfl (any_of HT_.out zq3) (fun _ _ _ h => h) (Or.inl ⟨by rfl, ?_⟩) ?_ ?_
             rotate_left
             ·
              intro w'
              go_simp
              with_reducible rfl
             rotate_left
             ·
              simp only [Act.put, zS, zT, zU, i64_w, i32_w]
              rfl
             refine pure_ (i := 17) (N := some 43) (v := ?_) (a' := ?_) #[zB,zB,zB,zB,zB,zB,zB,zB,zB,zB,zB,zB,zF,zB,zB,zB,zB,zB,zF,zF,zF,zF,zF] rfl rfl (any_of HT_.out zq3) (fun _ _ _ h => h) (Or.inl ⟨by rfl, ?_⟩) ?_ ?_
             rotate_left
             ·
              intro w'
              go_simp
              with_reducible rfl
             rotate_left
             ·
              simp only [Act.put, zS, zT, zU, i64_w, i32_w]
              rfl
             refine take_ (i := 12) (N := some 38) (v := ?_) (a' := ?_) #[zB,zB,zB,zB,zB,zB,zB,zB,zB,zB,zB,zB,zB,zB,zB,zB,zB,zB,zF,zF,zF,zF,zF] rfl rfl (take_ofW HT_.out HW_.out zq3) (fun _ _ _ h => h) (Or.inl ⟨by rfl, ?_⟩) hHeld ?_ ?_
             rotate_left
             ·
              rintro w' ⟨s0, s1, s2, s3, s4, s5⟩
              go_simp
              with_reducible rfl
             rotate_left
             ·
              simp only [Act.put, zS, zT, zU, i64_w, i32_w]
              rfl
             refine take_ (i := 18) (N := some 44) (v := ?_) (a' := ?_) #[zB,zB,zB,zB,zB,zB,zB,zB,zB,zB,zB,zB,zB,zB,zB,zB,zB,zB,zB,zF,zF,zF,zF] rfl rfl (take_ofW HT_.out HW_.out zq3) (fun _ _ _ h => h) (Or.inl ⟨by rfl, ?_⟩) hHeld ?_ ?_
             rotate_left
             ·
              rintro w' ⟨s0, s1, s2, s3, s4, s5⟩
              go_simp
              with_reducible rfl
             rotate_left
             ·
              simp only [Act.put, zS, zT, zU, i64_w, i32_w]
              rfl
             refine pure_ (i := 19) (N := some 45) (v := ?_) (a' := ?_) #[zB,zB,zB,zB,zB,zB,zB,zB,zB,zB,zB,zB,zB,zB,zB,zB,zB,zB,zB,zB,zF,zF,zF] rfl rfl (any_of HT_.out zq3) (fun _ _ _ h => h) (Or.inl ⟨by rfl, ?_⟩) ?_ ?_
             rotate_left
             ·
              intro w'
              go_simp
              with_reducible rfl
             rotate_left
             ·
              simp only [Act.put, zS, zT, zU, i64_w, i32_w]
              rfl
             refine pure_ (i := 20) (N := some 46) (v := ?_) (a' := ?_) #[zB,zB,zB,zB,zB,zB,zB,zB,zB,zB,zB,zB,zB,zB,zB,zB,zB,zB,zB,zB,zB,zF,zF] rfl rfl (any_of HT_.out zq3) (fun _ _ _ h => h) (Or.inl ⟨by rfl, ?_⟩) ?_ ?_
             rotate_left
             ·
              intro w'
              go_simp
              with_reducible rfl
             rotate_left
             ·
              simp only [Act.put, zS, zT, zU, i64_w, i32_w]
              rfl
             refine pure_ (i := 21) (N := some 47) (v := ?_) (a' := ?_) #[zB,zB,zB,zB,zB,zB,zB,zB,zB,zB,zB,zB,zB,zB,zB,zB,zB,zB,zB,zB,zB,zB,zF] rfl rfl (any_of HT_.out zq3) (fun _ _ _ h => h) (Or.inl ⟨by rfl, ?_⟩) ?_ ?_
             rotate_left
             ·
              intro w'
              go_simp
              with_reducible rfl
             rotate_left
             ·
              simp only [Act.put, zS, zT, zU, i64_w, i32_w]
              rfl
             refine pure_ (i := 22) (N := some 25) (v := ?_) (a' := ?_) #[zB,zB,zB,zB,zB,zB,zB,zB,zB,zB,zB,zB,zB,zB,zB,zB,zB,zB,zB,zB,zB,zB,zB] rfl rfl (any_of HT_.out zq3) (fun _ _ _ h => h) (Or.inl ⟨by rfl, ?_⟩) ?_ ?_
             rotate_left
             ·
              intro w'
              go_simp
              with_reducible rfl
             rotate_left
             ·
              simp only [Act.put, zS, zT, zU, i64_w, i32_w]
              rfl
             refine done_ (done_of HT_.out zq3) ?_
             try go_wp2
             go_roundg k1
             case measure => have := HK1.out; omega
             case rel => exact ⟨(wrap64 (x10_1 + 1)), zq4, H', ⟨by have := HK1.out; omega⟩, ⟨by repeat (first | (with_reducible first | exact HB.out | apply zA | apply zN | apply zD | refine below_set ?_ GE252.out) | exact HB.out)⟩⟩
            rw [if_neg c17] at H
            have c17b0 : (Op.bytesLess (((rd_T118 l0 (ji14)).f0).toList) (((rd_T118 l0 x10_1).f0).toList)) = false := by simpa using c17
            clear c17
            obtain rfl := Option.some.inj H
            have p251 : 0 ≤ (x10_1 : Int) := zX zq2
            have q251 : x10_1 < (l0.length : Int) := zX zq2
            obtain ⟨ad251, e251, hx251_0, hx251_1, hx251_2⟩ := at_T118 HR0.out x10_1 p251 q251
            cases e251
            replace hx251_0 := (HB.out.cell (zL w _ hx251_0)).trans hx251_0
            replace hx251_1 := (HB.out.cell (zL w _ hx251_1)).trans hx251_1
            replace hx251_2 := (HB.out.cell (zL w _ hx251_2)).trans hx251_2
            replace p251 := eq_true p251
            replace q251 := eq_true q251
            try go_wp2_with (first | ((with_reducible refine gate_dst (N := 4) rfl ?_); refine box_event ?hg (N := 4) ?hd (cs := #[.string (⟨#[]⟩ : ByteArray), .int .i64 0, .string (⟨#[]⟩ : ByteArray)]) (t := 118) ?hr ?_; (case hd => rfl); (case hg => rfl); (case hr => first | (go_simp; done) | (go_simp; rfl)); intro gb252 hg w23 hbox hb; have n0_ := zK (below_step zq0 hb); have n1_ := zK (hbox); have n2_ := zK ((by rw [hg]; exact (below_size zq0) : w.heap.size ≤ gb252)); have n3_ := zK ((by rw [hg]; exact (below_size zq0) : w.heap.size ≤ gb252)); clear HB; have HB := n0_; have BK252 := n1_; have GW252 := n2_; have GE252 := n3_; clear n0_ n1_ n2_ n3_; clear hb hbox hg; have hcz24_0 : w23.cell? ⟨gb252, 0, none⟩ = some (.string (⟨#[]⟩ : ByteArray)) := (blk_cell BK252.out 0).trans rfl; have hcz24_1 : w23.cell? ⟨gb252, 1, none⟩ = some (.int .i64 0) := (blk_cell BK252.out 1).trans rfl; have hcz24_2 : w23.cell? ⟨gb252, 2, none⟩ = some (.string (⟨#[]⟩ : ByteArray)) := (blk_cell BK252.out 2).trans rfl; have hfz24_0 := blk_frozen BK252.out 0; have hfz24_1 := blk_frozen BK252.out 1; have hfz24_2 := blk_frozen BK252.out 2) | ((with_reducible refine gate_callee (f := 140) rfl ?_); refine goesL_ (some 18) rfl rfl Tryz.func140 zq3 rfl #[.string ((rd_T118 l0 x10_1).f0)] rfl zq1 ?_; (with_reducible refine (impl_NameFault.calls k1 ((rd_T118 l0 x10_1).f0) t253 _ A6.out).mono ?_); rintro e w' ⟨rfl, ⟨nd, rfl⟩⟩; refine ⟨_, rfl, ?_⟩) | ((with_reducible refine gate_callee (f := 67) rfl ?_); refine goesL_ (some 23) rfl rfl Tryz.func67 zq3 rfl #[.int .i64 ((rd_T118 l0 x10_1).f1), .int .i64 1, .int .i64 3] rfl zq1 ?_; (with_reducible refine (impl_within.calls ((rd_T118 l0 x10_1).f1) 1 3 true _ A8.out).mono ?_); rintro e w' ⟨rfl, ⟨nd, rfl⟩⟩; refine ⟨_, rfl, ?_⟩))
            have n0_ : Aside0 ((((w23.setCell ⟨gb252, 0, none⟩ (.string ((rd_T118 l0 x10_1).f0))).setCell ⟨gb252, 1, none⟩ (.int .i64 ((rd_T118 l0 x10_1).f1))).setCell ⟨gb252, 2, none⟩ (.string ((rd_T118 l0 x10_1).f2))).heap[gb252]? = some (.cells #[.string ((rd_T118 l0 x10_1).f0), .int .i64 ((rd_T118 l0 x10_1).f1), .string ((rd_T118 l0 x10_1).f2)] 118 (0, 0))) := ⟨by (with_reducible repeat (first | refine zM ?_ _ | refine zP ?_ | refine zQ ?_ _)); refine blk_put (cs := #[.string ((rd_T118 l0 x10_1).f0), .int .i64 ((rd_T118 l0 x10_1).f1), .string (⟨#[]⟩ : ByteArray)]) ?_ 2 _ rfl; (with_reducible repeat (first | refine zM ?_ _ | refine zP ?_ | refine zQ ?_ _)); refine blk_put (cs := #[.string ((rd_T118 l0 x10_1).f0), .int .i64 0, .string (⟨#[]⟩ : ByteArray)]) ?_ 1 _ rfl; (with_reducible repeat (first | refine zM ?_ _ | refine zP ?_ | refine zQ ?_ _)); refine blk_put (cs := #[.string (⟨#[]⟩ : ByteArray), .int .i64 0, .string (⟨#[]⟩ : ByteArray)]) ?_ 0 _ rfl; (with_reducible repeat (first | refine zM ?_ _ | refine zP ?_ | refine zQ ?_ _)); exact BK252.out⟩
            have n1_ : Aside0 (Below w.heap.size w (((w23.setCell ⟨gb252, 0, none⟩ (.string ((rd_T118 l0 x10_1).f0))).setCell ⟨gb252, 1, none⟩ (.int .i64 ((rd_T118 l0 x10_1).f1))).setCell ⟨gb252, 2, none⟩ (.string ((rd_T118 l0 x10_1).f2)))) := ⟨by repeat (first | (with_reducible first | exact HB.out | apply zA | apply zN | apply zD | refine below_set ?_ GE252.out) | exact HB.out)⟩
            (try clear BK252)
            (try clear HB)
            generalize (((w23.setCell ⟨gb252, 0, none⟩ (.string ((rd_T118 l0 x10_1).f0))).setCell ⟨gb252, 1, none⟩ (.int .i64 ((rd_T118 l0 x10_1).f1))).setCell ⟨gb252, 2, none⟩ (.string ((rd_T118 l0 x10_1).f2))) = w25 at n0_ n1_ ⊢
            have BK252 := n0_
            have HB := n1_
            clear n0_ n1_
            (try (rw [drewN_self w25]; generalize hq_ : World.drewN w25 _ = w25; have n0_ : Aside0 (w25.heap[gb252]? = some (.cells #[.string ((rd_T118 l0 x10_1).f0), .int .i64 ((rd_T118 l0 x10_1).f1), .string ((rd_T118 l0 x10_1).f2)] 118 (0, 0))) := ⟨by rw [← hq_]; exact (by (with_reducible repeat (first | refine zM ?_ _ | refine zP ?_ | refine zQ ?_ _)); exact BK252.out)⟩; have n1_ : Aside0 (Below w.heap.size w w25) := ⟨by rw [← hq_]; exact (by repeat (first | (with_reducible first | exact HB.out | apply zA | apply zN | apply zD | refine below_set ?_ GE252.out) | exact HB.out))⟩; clear BK252 HB hq_; have BK252 := n0_; have HB := n1_; clear n0_ n1_))
            have n0_ := zK (zP BK252.out)
            have n1_ := zK (zD HB.out)
            clear BK252
            clear HB
            have BK252 := n0_
            have HB := n1_
            clear n0_ n1_
            have p257 : 0 ≤ ((ji14) : Int) := zX zq2
            have q257 : (ji14) < (l0.length : Int) := zX zq2
            obtain ⟨ad257, e257, hx257_0, hx257_1, hx257_2⟩ := at_T118 HR0.out (ji14) p257 q257
            have hw257_2 := hx257_2
            have hw257_1 := hx257_1
            have hw257_0 := hx257_0
            obtain rfl : ad251 = ad257 := (by injection e257)
            replace hx257_0 := (HB.out.cell (zL w _ hx257_0)).trans hx257_0
            replace hx257_1 := (HB.out.cell (zL w _ hx257_1)).trans hx257_1
            replace hx257_2 := (HB.out.cell (zL w _ hx257_2)).trans hx257_2
            replace p257 := eq_true p257
            replace q257 := eq_true q257
            refine start_ (n := 23) (S := fun w' => w'.cell? ⟨gb252, 0, none⟩ = some (.string ((rd_T118 l0 x10_1).f0)) ∧ w'.cell? ⟨gb252, 1, none⟩ = some (.int .i64 ((rd_T118 l0 x10_1).f1)) ∧ w'.cell? ⟨gb252, 2, none⟩ = some (.string ((rd_T118 l0 x10_1).f2)) ∧ w'.cell? (ad251.add (((ji14)).toNat * 3)) = some (.string ((rd_T118 l0 (ji14)).f0)) ∧ w'.cell? ⟨(ad251.add (((ji14)).toNat * 3)).block, (ad251.add (((ji14)).toNat * 3)).off + 1, none⟩ = some (.int .i64 ((rd_T118 l0 (ji14)).f1)) ∧ w'.cell? ⟨(ad251.add (((ji14)).toNat * 3)).block, (ad251.add (((ji14)).toNat * 3)).off + 2, none⟩ = some (.string ((rd_T118 l0 (ji14)).f2))) (ds := []) #[zF,zF,zF,zF,zF,zF,zF,zF,zF,zF,zF,zF,zF,zF,zF,zF,zF,zF,zF,zF,zF,zF,zF] zq3 rfl rfl ⟨(blk_cell BK252.out 0).trans rfl, (blk_cell BK252.out 1).trans rfl, (blk_cell BK252.out 2).trans rfl, ((HB.out.cell (zL w _ hw257_0)).trans hw257_0), ((HB.out.cell (zL w _ hw257_1)).trans hw257_1), ((HB.out.cell (zL w _ hw257_2)).trans hw257_2)⟩ (fun hHeld => ?_); refine with_tabW impl_TreeFault.tab10 impl_TreeFault.bits10 (fun HT_ HW_ => ?_)
            generalize w25.drew = w26 at BK252 HB hx257_0 hx257_1 hx257_2 hHeld ⊢
            refine pure_ (i := 0) (N := some 26) (v := ?_) (a' := ?_) #[zB,zF,zF,zF,zF,zF,zF,zF,zF,zF,zF,zF,zF,zF,zF,zF,zF,zF,zF,zF,zF,zF,zF] rfl rfl (any_of HT_.out zq3) (fun _ _ _ h => h) (Or.inl ⟨by rfl, ?_⟩) ?_ ?_
            rotate_left
            ·
             intro w'
             go_simp
             with_reducible rfl
            rotate_left
            ·
             simp only [Act.put, zS, zT, zU, i64_w, i32_w]
             rfl
            refine pure_ (i := 3) (N := some 29) (v := ?_) (a' := ?_) #[zB,zF,zF,zB,zF,zF,zF,zF,zF,zF,zF,zF,zF,zF,zF,zF,zF,zF,zF,zF,zF,zF,zF] rfl rfl (any_of HT_.out zq3) (fun _ _ _ h => h) (Or.inl ⟨by rfl, ?_⟩) ?_ ?_
            rotate_left
            ·
             intro w'
             go_simp
             with_reducible rfl
            rotate_left
            ·
             simp only [Act.put, zS, zT, zU, i64_w, i32_w]
             rfl
            refine take_ (i := 1) (N := some 27) (v := ?_) (a' := ?_) #[zB,zB,zF,zB,zF,zF,zF,zF,zF,zF,zF,zF,zF,zF,zF,zF,zF,zF,zF,zF,zF,zF,zF] rfl rfl (take_ofW HT_.out HW_.out zq3) (fun _ _ _ h => h) (Or.inl ⟨by rfl, ?_⟩) hHeld ?_ ?_
            rotate_left
            ·
             rintro w' ⟨s0, s1, s2, s3, s4, s5⟩
             go_simp
             with_reducible rfl
            rotate_left
            ·
             simp only [Act.put, zS, zT, zU, i64_w, i32_w]
             rfl
            refine take_ (i := 4) (N := some 30) (v := ?_) (a' := ?_) #[zB,zB,zF,zB,zB,zF,zF,zF,zF,zF,zF,zF,zF,zF,zF,zF,zF,zF,zF,zF,zF,zF,zF] rfl rfl (take_ofW HT_.out HW_.out zq3) (fun _ _ _ h => h) (Or.inl ⟨by rfl, ?_⟩) hHeld ?_ ?_
            rotate_left
            ·
             rintro w' ⟨s0, s1, s2, s3, s4, s5⟩
             go_simp
             with_reducible rfl
            rotate_left
            ·
             simp only [Act.put, zS, zT, zU, i64_w, i32_w]
             rfl
            refine one_ (i := 2) (N := some 28) #[zB,zB,zB,zB,zB,zF,zF,zF,zF,zF,zF,zF,zF,zF,zF,zF,zF,zF,zF,zF,zF,zF,zF] rfl rfl (one_of HT_.out zq3) zq13 (fun K hK => ?_)
            refine goes_ Tryz.func235 zq3 rfl #[.int .i64 ((rd_T118 l0 x10_1).f1)] zq28 rfl rfl zq1 ?_
            with_reducible refine (impl_kindAt.calls ((rd_T118 l0 x10_1).f1) t255 _ A10.out).mono ?_
            rintro e w' ⟨rfl, ⟨nd, rfl⟩⟩
            refine ⟨_, rfl, ?_⟩
            refine hK.out _ _ ⟨(blk_cell BK252.out 0).trans rfl, (blk_cell BK252.out 1).trans rfl, (blk_cell BK252.out 2).trans rfl, ((HB.out.cell (zL w _ hw257_0)).trans hw257_0), ((HB.out.cell (zL w _ hw257_1)).trans hw257_1), ((HB.out.cell (zL w _ hw257_2)).trans hw257_2)⟩ (fun hHeld => ?_)
            clear hK K
            refine norm_ (a' := ?_) ?_ ?_
            rotate_left
            ·
             show Act.put _ (some 28) _ = _
             simp only [Act.put, zS, zT, zU, i64_w, i32_w]
             rfl
            refine one_ (i := 5) (N := some 31) #[zB,zB,zB,zB,zB,zB,zF,zF,zF,zF,zF,zF,zF,zF,zF,zF,zF,zF,zF,zF,zF,zF,zF] rfl rfl (one_of HT_.out zq3) zq13 (fun K hK => ?_)
            refine goes_ Tryz.func90 zq3 rfl #[.int .i64 t255, .string ((rd_T118 l0 x10_1).f2)] zq28 rfl rfl zq1 ?_
            with_reducible refine (impl_isIdOf.calls t255 ((rd_T118 l0 x10_1).f2) true _ A11.out).mono ?_
            rintro e w27 ⟨rfl, hb⟩
            refine ⟨_, rfl, ?_⟩
            have n0_ := zK (blk_below (g := gb252) (o := .cells #[.string ((rd_T118 l0 x10_1).f0), .int .i64 ((rd_T118 l0 x10_1).f1), .string ((rd_T118 l0 x10_1).f2)] 118 (0, 0)) (by (with_reducible repeat (first | refine zM ?_ _ | refine zP ?_ | refine zQ ?_ _)); exact BK252.out) hb)
            have n1_ := zK (below_step (by repeat (first | (with_reducible first | exact HB.out | apply zA | apply zN | apply zD | refine below_set ?_ GE252.out) | exact HB.out)) hb)
            clear BK252
            clear HB
            have BK252 := n0_
            have HB := n1_
            clear n0_ n1_
            (try clear hb)
            (try clear hb2)
            (try clear hk)
            (try clear hi)
            refine hK.out _ _ ⟨(blk_cell BK252.out 0).trans rfl, (blk_cell BK252.out 1).trans rfl, (blk_cell BK252.out 2).trans rfl, ((HB.out.cell (zL w _ hw257_0)).trans hw257_0), ((HB.out.cell (zL w _ hw257_1)).trans hw257_1), ((HB.out.cell (zL w _ hw257_2)).trans hw257_2)⟩ (fun hHeld => ?_)
            clear hK K
            refine norm_ (a' := ?_) ?_ ?_
            rotate_left
            ·
             show Act.put _ (some 31) _ = _
             simp only [Act.put, zS, zT, zU, i64_w, i32_w]
             rfl
            refine pure_ (i := 6) (N := some 32) (v := ?_) (a' := ?_) #[zB,zB,zB,zB,zB,zB,zB,zF,zF,zF,zF,zF,zF,zF,zF,zF,zF,zF,zF,zF,zF,zF,zF] rfl rfl (any_of HT_.out zq3) (fun _ _ _ h => h) (Or.inl ⟨by rfl, ?_⟩) ?_ ?_
            rotate_left
            ·
             intro w'
             go_simp
             with_reducible rfl
            rotate_left
            ·
             simp only [Act.put, zS, zT, zU, i64_w, i32_w]
             rfl
            refine pure_ (i := 7) (N := some 33) (v := ?_) (a' := ?_) #[zB,zB,zB,zB,zB,zB,zB,zB,zF,zF,zF,zF,zF,zF,zF,zF,zF,zF,zF,zF,zF,zF,zF] rfl rfl (any_of HT_.out zq3) (fun _ _ _ h => h) (Or.inl ⟨by rfl, ?_⟩) ?_ ?_
            rotate_left
            ·
             intro w'
             go_simp
             with_reducible rfl
            rotate_left
            ·
             simp only [Act.put, zS, zT, zU, i64_w, i32_w]
             rfl
            refine pure_ (i := 8) (N := some 34) (v := ?_) (a' := ?_) #[zB,zB,zB,zB,zB,zB,zB,zB,zB,zF,zF,zF,zF,zF,zF,zF,zF,zF,zF,zF,zF,zF,zF] rfl rfl (any_of HT_.out zq3) (fun _ _ _ h => h) (Or.inl ⟨by rfl, ?_⟩) ?_ ?_
            rotate_left
            ·
             intro w'
             go_simp
             with_reducible rfl
            rotate_left
            ·
             simp only [Act.put, zS, zT, zU, i64_w, i32_w]
             rfl
            refine pure_ (i := 9) (N := some 35) (v := ?_) (a' := ?_) #[zB,zB,zB,zB,zB,zB,zB,zB,zB,zB,zF,zF,zF,zF,zF,zF,zF,zF,zF,zF,zF,zF,zF] rfl rfl (any_of HT_.out zq3) (fun _ _ _ h => h) (Or.inl ⟨by rfl, ?_⟩) ?_ ?_
            rotate_left
            ·
             intro w'
             go_simp
             with_reducible rfl
            rotate_left
            ·
             simp only [Act.put, zS, zT, zU, i64_w, i32_w]
             rfl
            refine pure_ (i := 10) (N := some 36) (v := ?_) (a' := ?_) #[zB,zB,zB,zB,zB,zB,zB,zB,zB,zB,zB,zF,zF,zF,zF,zF,zF,zF,zF,zF,zF,zF,zF] rfl rfl (any_of HT_.out zq3) (fun _ _ _ h => h) (Or.inl ⟨by rfl, ?_⟩) ?_ ?_
            rotate_left
            ·
             intro w'
             go_simp
             with_reducible rfl
            rotate_left
            ·
             simp only [Act.put, zS, zT, zU, i64_w, i32_w]
             rfl
            refine pure_ (i := 11) (N := some 37) (v := ?_) (a' := ?_) #[zB,zB,zB,zB,zB,zB,zB,zB,zB,zB,zB,zB,zF,zF,zF,zF,zF,zF,zF,zF,zF,zF,zF] rfl rfl (any_of HT_.out zq3) (fun _ _ _ h => h) (Or.inl ⟨by rfl, ?_⟩) ?_ ?_
            rotate_left
            ·
             intro w'
             go_simp
             with_reducible rfl
            rotate_left
            ·
             simp only [Act.put, zS, zT, zU, i64_w, i32_w]
             rfl
            refine pure_ (i := 13) (N := some 39) (v := ?_) (a' := ?_) #[zB,zB,zB,zB,zB,zB,zB,zB,zB,zB,zB,zB,zF,zB,zF,zF,zF,zF,zF,zF,zF,zF,zF] rfl rfl (any_of HT_.out zq3) (fun _ _ _ h => h) (Or.inl ⟨by rfl, ?_⟩) ?_ ?_
            rotate_left
            ·
             intro w'
             go_simp
             with_reducible rfl
            rotate_left
            ·
             simp only [Act.put, zS, zT, zU, i64_w, i32_w]
             rfl
            refine pure_ (i := 14) (N := some 40) (v := ?_) (a' := ?_) #[zB,zB,zB,zB,zB,zB,zB,zB,zB,zB,zB,zB,zF,zB,zB,zF,zF,zF,zF,zF,zF,zF,zF] rfl rfl (any_of HT_.out zq3) (fun _ _ _ h => h) (Or.inl ⟨by rfl, ?_⟩) ?_ ?_
            rotate_left
            ·
             intro w'
             go_simp
             with_reducible rfl
            rotate_left
            ·
             simp only [Act.put, zS, zT, zU, i64_w, i32_w]
             rfl
            refine pure_ (i := 15) (N := some 41) (v := ?_) (a' := ?_) #[zB,zB,zB,zB,zB,zB,zB,zB,zB,zB,zB,zB,zF,zB,zB,zB,zF,zF,zF,zF,zF,zF,zF] rfl rfl (any_of HT_.out zq3) (fun _ _ _ h => h) (Or.inl ⟨by rfl, ?_⟩) ?_ ?_
            rotate_left
            ·
             intro w'
             go_simp
             with_reducible rfl
            rotate_left
            ·
             simp only [Act.put, zS, zT, zU, i64_w, i32_w]
             rfl
            refine pure_ (i := 16) (N := some 42) (v := ?_) (a' := ?_) #[zB,zB,zB,zB,zB,zB,zB,zB,zB,zB,zB,zB,zF,zB,zB,zB,zB,zF,zF,zF,zF,zF,zF] rfl rfl (any_of HT_.out zq3) (fun _ _ _ h => h) (Or.inl ⟨by rfl, ?_⟩) ?_ ?_
            rotate_left
            ·
             intro w'
             go_simp
             with_reducible rfl
            rotate_left
            ·
             simp only [Act.put, zS, zT, zU, i64_w, i32_w]
             rfl
            refine pure_ (i := 17) (N := some 43) (v := ?_) (a' := ?_) #[zB,zB,zB,zB,zB,zB,zB,zB,zB,zB,zB,zB,zF,zB,zB,zB,zB,zB,zF,zF,zF,zF,zF] rfl rfl (any_of HT_.out zq3) (fun _ _ _ h => h) (Or.inl ⟨by rfl, ?_⟩) ?_ ?_
            rotate_left
            ·
             intro w'
             go_simp
             with_reducible rfl
            rotate_left
            ·
             simp only [Act.put, zS, zT, zU, i64_w, i32_w]
             rfl
            refine take_ (i := 12) (N := some 38) (v := ?_) (a' := ?_) #[zB,zB,zB,zB,zB,zB,zB,zB,zB,zB,zB,zB,zB,zB,zB,zB,zB,zB,zF,zF,zF,zF,zF] rfl rfl (take_ofW HT_.out HW_.out zq3) (fun _ _ _ h => h) (Or.inl ⟨by rfl, ?_⟩) hHeld ?_ ?_
            rotate_left
            ·
             rintro w' ⟨s0, s1, s2, s3, s4, s5⟩
             go_simp
             with_reducible rfl
            rotate_left
            ·
             simp only [Act.put, zS, zT, zU, i64_w, i32_w]
             rfl
            refine take_ (i := 18) (N := some 44) (v := ?_) (a' := ?_) #[zB,zB,zB,zB,zB,zB,zB,zB,zB,zB,zB,zB,zB,zB,zB,zB,zB,zB,zB,zF,zF,zF,zF] rfl rfl (take_ofW HT_.out HW_.out zq3) (fun _ _ _ h => h) (Or.inl ⟨by rfl, ?_⟩) hHeld ?_ ?_
            rotate_left
            ·
             rintro w' ⟨s0, s1, s2, s3, s4, s5⟩
             go_simp
             with_reducible rfl
            rotate_left
            ·
             simp only [Act.put, zS, zT, zU, i64_w, i32_w]
             rfl
            refine pure_ (i := 19) (N := some 45) (v := ?_) (a' := ?_) #[zB,zB,zB,zB,zB,zB,zB,zB,zB,zB,zB,zB,zB,zB,zB,zB,zB,zB,zB,zB,zF,zF,zF] rfl rfl (any_of HT_.out zq3) (fun _ _ _ h => h) (Or.inl ⟨by rfl, ?_⟩) ?_ ?_
            rotate_left
            ·
             intro w'
             go_simp
             with_reducible rfl
            rotate_left
            ·
             simp only [Act.put, zS, zT, zU, i64_w, i32_w]
             rfl
            refine pure_ (i := 20) (N := some 46) (v := ?_) (a' := ?_) #[zB,zB,zB,zB,zB,zB,zB,zB,zB,zB,zB,zB,zB,zB,zB,zB,zB,zB,zB,zB,zB,zF,zF] rfl rfl (any_of HT_.out zq3) (fun _ _ _ h => h) (Or.inl ⟨by rfl, ?_⟩) ?_ ?_
            rotate_left
            ·
             intro w'
             go_simp
             with_reducible rfl
            rotate_left
            ·
             simp only [Act.put, zS, zT, zU, i64_w, i32_w]
             rfl
            refine pure_ (i := 21) (N := some 47) (v := ?_) (a' := ?_) #[zB,zB,zB,zB,zB,zB,zB,zB,zB,zB,zB,zB,zB,zB,zB,zB,zB,zB,zB,zB,zB,zB,zF] rfl rfl (any_of HT_.out zq3) (fun _ _ _ h => h) (Or.inl ⟨by rfl, ?_⟩) ?_ ?_
            rotate_left
            ·
             intro w'
             go_simp
             with_reducible rfl
            rotate_left
            ·
             simp only [Act.put, zS, zT, zU, i64_w, i32_w]
             rfl
            refine pure_ (i := 22) (N := some 25) (v := ?_) (a' := ?_) #[zB,zB,zB,zB,zB,zB,zB,zB,zB,zB,zB,zB,zB,zB,zB,zB,zB,zB,zB,zB,zB,zB,zB] rfl rfl (any_of HT_.out zq3) (fun _ _ _ h => h) (Or.inl ⟨by rfl, ?_⟩) ?_ ?_
            rotate_left
            ·
             intro w'
             go_simp
             with_reducible rfl
            rotate_left
            ·
             simp only [Act.put, zS, zT, zU, i64_w, i32_w]
             rfl
            refine done_ (done_of HT_.out zq3) ?_
            try go_wp2
            go_ret
            exact ⟨(by first | rfl | (simp [errW_none, errW_some] <;> rfl) | (simp only [← hji14]; first | rfl | (simp [errW_none, errW_some] <;> rfl)) | (simp [*, errW_none, errW_some] <;> rfl)), (by repeat (first | (with_reducible first | exact HB.out | apply zA | apply zN | apply zD | refine below_set ?_ GE252.out) | exact HB.out))⟩
           rw [if_neg c16] at H
           exact absurd H zq16
          rw [if_neg c15] at H
          exact absurd H zq16
         rw [if_neg c13] at H
         have c13b0 : decide (0 < x10_1) = false := decide_eq_false c13
         clear c13
         have H' := zK H
         clear H
         have p251 : 0 ≤ (x10_1 : Int) := zX zq2
         have q251 : x10_1 < (l0.length : Int) := zX zq2
         obtain ⟨ad251, e251, hx251_0, hx251_1, hx251_2⟩ := at_T118 HR0.out x10_1 p251 q251
         cases e251
         replace hx251_0 := (HB.out.cell (zL w _ hx251_0)).trans hx251_0
         replace hx251_1 := (HB.out.cell (zL w _ hx251_1)).trans hx251_1
         replace hx251_2 := (HB.out.cell (zL w _ hx251_2)).trans hx251_2
         replace p251 := eq_true p251
         replace q251 := eq_true q251
         try go_wp2_with (first | ((with_reducible refine gate_dst (N := 4) rfl ?_); refine box_event ?hg (N := 4) ?hd (cs := #[.string (⟨#[]⟩ : ByteArray), .int .i64 0, .string (⟨#[]⟩ : ByteArray)]) (t := 118) ?hr ?_; (case hd => rfl); (case hg => rfl); (case hr => first | (go_simp; done) | (go_simp; rfl)); intro gb252 hg w28 hbox hb; have n0_ := zK (below_step zq0 hb); have n1_ := zK (hbox); have n2_ := zK ((by rw [hg]; exact (below_size zq0) : w.heap.size ≤ gb252)); have n3_ := zK ((by rw [hg]; exact (below_size zq0) : w.heap.size ≤ gb252)); clear HB; have HB := n0_; have BK252 := n1_; have GW252 := n2_; have GE252 := n3_; clear n0_ n1_ n2_ n3_; clear hb hbox hg; have hcz29_0 : w28.cell? ⟨gb252, 0, none⟩ = some (.string (⟨#[]⟩ : ByteArray)) := (blk_cell BK252.out 0).trans rfl; have hcz29_1 : w28.cell? ⟨gb252, 1, none⟩ = some (.int .i64 0) := (blk_cell BK252.out 1).trans rfl; have hcz29_2 : w28.cell? ⟨gb252, 2, none⟩ = some (.string (⟨#[]⟩ : ByteArray)) := (blk_cell BK252.out 2).trans rfl; have hfz29_0 := blk_frozen BK252.out 0; have hfz29_1 := blk_frozen BK252.out 1; have hfz29_2 := blk_frozen BK252.out 2) | ((with_reducible refine gate_callee (f := 140) rfl ?_); refine goesL_ (some 18) rfl rfl Tryz.func140 zq3 rfl #[.string ((rd_T118 l0 x10_1).f0)] rfl zq1 ?_; (with_reducible refine (impl_NameFault.calls k1 ((rd_T118 l0 x10_1).f0) t253 _ A6.out).mono ?_); rintro e w' ⟨rfl, ⟨nd, rfl⟩⟩; refine ⟨_, rfl, ?_⟩) | ((with_reducible refine gate_callee (f := 67) rfl ?_); refine goesL_ (some 23) rfl rfl Tryz.func67 zq3 rfl #[.int .i64 ((rd_T118 l0 x10_1).f1), .int .i64 1, .int .i64 3] rfl zq1 ?_; (with_reducible refine (impl_within.calls ((rd_T118 l0 x10_1).f1) 1 3 true _ A8.out).mono ?_); rintro e w' ⟨rfl, ⟨nd, rfl⟩⟩; refine ⟨_, rfl, ?_⟩))
         have n0_ : Aside0 ((((w28.setCell ⟨gb252, 0, none⟩ (.string ((rd_T118 l0 x10_1).f0))).setCell ⟨gb252, 1, none⟩ (.int .i64 ((rd_T118 l0 x10_1).f1))).setCell ⟨gb252, 2, none⟩ (.string ((rd_T118 l0 x10_1).f2))).heap[gb252]? = some (.cells #[.string ((rd_T118 l0 x10_1).f0), .int .i64 ((rd_T118 l0 x10_1).f1), .string ((rd_T118 l0 x10_1).f2)] 118 (0, 0))) := ⟨by (with_reducible repeat (first | refine zM ?_ _ | refine zP ?_ | refine zQ ?_ _)); refine blk_put (cs := #[.string ((rd_T118 l0 x10_1).f0), .int .i64 ((rd_T118 l0 x10_1).f1), .string (⟨#[]⟩ : ByteArray)]) ?_ 2 _ rfl; (with_reducible repeat (first | refine zM ?_ _ | refine zP ?_ | refine zQ ?_ _)); refine blk_put (cs := #[.string ((rd_T118 l0 x10_1).f0), .int .i64 0, .string (⟨#[]⟩ : ByteArray)]) ?_ 1 _ rfl; (with_reducible repeat (first | refine zM ?_ _ | refine zP ?_ | refine zQ ?_ _)); refine blk_put (cs := #[.string (⟨#[]⟩ : ByteArray), .int .i64 0, .string (⟨#[]⟩ : ByteArray)]) ?_ 0 _ rfl; (with_reducible repeat (first | refine zM ?_ _ | refine zP ?_ | refine zQ ?_ _)); exact BK252.out⟩
         have n1_ : Aside0 (Below w.heap.size w (((w28.setCell ⟨gb252, 0, none⟩ (.string ((rd_T118 l0 x10_1).f0))).setCell ⟨gb252, 1, none⟩ (.int .i64 ((rd_T118 l0 x10_1).f1))).setCell ⟨gb252, 2, none⟩ (.string ((rd_T118 l0 x10_1).f2)))) := ⟨by repeat (first | (with_reducible first | exact HB.out | apply zA | apply zN | apply zD | refine below_set ?_ GE252.out) | exact HB.out)⟩
         (try clear BK252)
         (try clear HB)
         generalize (((w28.setCell ⟨gb252, 0, none⟩ (.string ((rd_T118 l0 x10_1).f0))).setCell ⟨gb252, 1, none⟩ (.int .i64 ((rd_T118 l0 x10_1).f1))).setCell ⟨gb252, 2, none⟩ (.string ((rd_T118 l0 x10_1).f2))) = w30 at n0_ n1_ ⊢
         have BK252 := n0_
         have HB := n1_
         clear n0_ n1_
         (try (rw [drewN_self w30]; generalize hq_ : World.drewN w30 _ = w30; have n0_ : Aside0 (w30.heap[gb252]? = some (.cells #[.string ((rd_T118 l0 x10_1).f0), .int .i64 ((rd_T118 l0 x10_1).f1), .string ((rd_T118 l0 x10_1).f2)] 118 (0, 0))) := ⟨by rw [← hq_]; exact (by (with_reducible repeat (first | refine zM ?_ _ | refine zP ?_ | refine zQ ?_ _)); exact BK252.out)⟩; have n1_ : Aside0 (Below w.heap.size w w30) := ⟨by rw [← hq_]; exact (by repeat (first | (with_reducible first | exact HB.out | apply zA | apply zN | apply zD | refine below_set ?_ GE252.out) | exact HB.out))⟩; clear BK252 HB hq_; have BK252 := n0_; have HB := n1_; clear n0_ n1_))
         have n0_ := zK (zP BK252.out)
         have n1_ := zK (zD HB.out)
         clear BK252
         clear HB
         have BK252 := n0_
         have HB := n1_
         clear n0_ n1_
         refine start_ (n := 23) (S := fun w' => w'.cell? ⟨gb252, 0, none⟩ = some (.string ((rd_T118 l0 x10_1).f0)) ∧ w'.cell? ⟨gb252, 1, none⟩ = some (.int .i64 ((rd_T118 l0 x10_1).f1)) ∧ w'.cell? ⟨gb252, 2, none⟩ = some (.string ((rd_T118 l0 x10_1).f2))) (ds := []) #[zF,zF,zF,zF,zF,zF,zF,zF,zF,zF,zF,zF,zF,zF,zF,zF,zF,zF,zF,zF,zF,zF,zF] zq3 rfl rfl ⟨(blk_cell BK252.out 0).trans rfl, (blk_cell BK252.out 1).trans rfl, (blk_cell BK252.out 2).trans rfl⟩ (fun hHeld => ?_); refine with_tabW impl_TreeFault.tab10 impl_TreeFault.bits10 (fun HT_ HW_ => ?_)
         generalize w30.drew = w31 at BK252 HB hHeld ⊢
         refine pure_ (i := 0) (N := some 26) (v := ?_) (a' := ?_) #[zB,zF,zF,zF,zF,zF,zF,zF,zF,zF,zF,zF,zF,zF,zF,zF,zF,zF,zF,zF,zF,zF,zF] rfl rfl (any_of HT_.out zq3) (fun _ _ _ h => h) (Or.inl ⟨by rfl, ?_⟩) ?_ ?_
         rotate_left
         ·
          intro w'
          go_simp
          with_reducible rfl
         rotate_left
         ·
          simp only [Act.put, zS, zT, zU, i64_w, i32_w]
          rfl
         refine pure_ (i := 3) (N := some 29) (v := ?_) (a' := ?_) #[zB,zF,zF,zB,zF,zF,zF,zF,zF,zF,zF,zF,zF,zF,zF,zF,zF,zF,zF,zF,zF,zF,zF] rfl rfl (any_of HT_.out zq3) (fun _ _ _ h => h) (Or.inl ⟨by rfl, ?_⟩) ?_ ?_
         rotate_left
         ·
          intro w'
          go_simp
          with_reducible rfl
         rotate_left
         ·
          simp only [Act.put, zS, zT, zU, i64_w, i32_w]
          rfl
         refine take_ (i := 1) (N := some 27) (v := ?_) (a' := ?_) #[zB,zB,zF,zB,zF,zF,zF,zF,zF,zF,zF,zF,zF,zF,zF,zF,zF,zF,zF,zF,zF,zF,zF] rfl rfl (take_ofW HT_.out HW_.out zq3) (fun _ _ _ h => h) (Or.inl ⟨by rfl, ?_⟩) hHeld ?_ ?_
         rotate_left
         ·
          rintro w' ⟨s0, s1, s2⟩
          go_simp
          with_reducible rfl
         rotate_left
         ·
          simp only [Act.put, zS, zT, zU, i64_w, i32_w]
          rfl
         refine take_ (i := 4) (N := some 30) (v := ?_) (a' := ?_) #[zB,zB,zF,zB,zB,zF,zF,zF,zF,zF,zF,zF,zF,zF,zF,zF,zF,zF,zF,zF,zF,zF,zF] rfl rfl (take_ofW HT_.out HW_.out zq3) (fun _ _ _ h => h) (Or.inl ⟨by rfl, ?_⟩) hHeld ?_ ?_
         rotate_left
         ·
          rintro w' ⟨s0, s1, s2⟩
          go_simp
          with_reducible rfl
         rotate_left
         ·
          simp only [Act.put, zS, zT, zU, i64_w, i32_w]
          rfl
         refine one_ (i := 2) (N := some 28) #[zB,zB,zB,zB,zB,zF,zF,zF,zF,zF,zF,zF,zF,zF,zF,zF,zF,zF,zF,zF,zF,zF,zF] rfl rfl (one_of HT_.out zq3) zq13 (fun K hK => ?_)
         refine goes_ Tryz.func235 zq3 rfl #[.int .i64 ((rd_T118 l0 x10_1).f1)] zq28 rfl rfl zq1 ?_
         with_reducible refine (impl_kindAt.calls ((rd_T118 l0 x10_1).f1) t255 _ A10.out).mono ?_
         rintro e w' ⟨rfl, ⟨nd, rfl⟩⟩
         refine ⟨_, rfl, ?_⟩
         refine hK.out _ _ ⟨(blk_cell BK252.out 0).trans rfl, (blk_cell BK252.out 1).trans rfl, (blk_cell BK252.out 2).trans rfl⟩ (fun hHeld => ?_)
         clear hK K
         refine norm_ (a' := ?_) ?_ ?_
         rotate_left
         ·
          show Act.put _ (some 28) _ = _
          simp only [Act.put, zS, zT, zU, i64_w, i32_w]
          rfl
         refine one_ (i := 5) (N := some 31) #[zB,zB,zB,zB,zB,zB,zF,zF,zF,zF,zF,zF,zF,zF,zF,zF,zF,zF,zF,zF,zF,zF,zF] rfl rfl (one_of HT_.out zq3) zq13 (fun K hK => ?_)
         refine goes_ Tryz.func90 zq3 rfl #[.int .i64 t255, .string ((rd_T118 l0 x10_1).f2)] zq28 rfl rfl zq1 ?_
         with_reducible refine (impl_isIdOf.calls t255 ((rd_T118 l0 x10_1).f2) true _ A11.out).mono ?_
         rintro e w32 ⟨rfl, hb⟩
         refine ⟨_, rfl, ?_⟩
         have n0_ := zK (blk_below (g := gb252) (o := .cells #[.string ((rd_T118 l0 x10_1).f0), .int .i64 ((rd_T118 l0 x10_1).f1), .string ((rd_T118 l0 x10_1).f2)] 118 (0, 0)) (by (with_reducible repeat (first | refine zM ?_ _ | refine zP ?_ | refine zQ ?_ _)); exact BK252.out) hb)
         have n1_ := zK (below_step (by repeat (first | (with_reducible first | exact HB.out | apply zA | apply zN | apply zD | refine below_set ?_ GE252.out) | exact HB.out)) hb)
         clear BK252
         clear HB
         have BK252 := n0_
         have HB := n1_
         clear n0_ n1_
         (try clear hb)
         (try clear hb2)
         (try clear hk)
         (try clear hi)
         refine hK.out _ _ ⟨(blk_cell BK252.out 0).trans rfl, (blk_cell BK252.out 1).trans rfl, (blk_cell BK252.out 2).trans rfl⟩ (fun hHeld => ?_)
         clear hK K
         refine norm_ (a' := ?_) ?_ ?_
         rotate_left
         ·
          show Act.put _ (some 31) _ = _
          simp only [Act.put, zS, zT, zU, i64_w, i32_w]
          rfl
         refine pure_ (i := 6) (N := some 32) (v := ?_) (a' := ?_) #[zB,zB,zB,zB,zB,zB,zB,zF,zF,zF,zF,zF,zF,zF,zF,zF,zF,zF,zF,zF,zF,zF,zF] rfl rfl (any_of HT_.out zq3) (fun _ _ _ h => h) (Or.inl ⟨by rfl, ?_⟩) ?_ ?_
         rotate_left
         ·
          intro w'
          go_simp
          with_reducible rfl
         rotate_left
         ·
          simp only [Act.put, zS, zT, zU, i64_w, i32_w]
          rfl
         refine pure_ (i := 7) (N := some 33) (v := ?_) (a' := ?_) #[zB,zB,zB,zB,zB,zB,zB,zB,zF,zF,zF,zF,zF,zF,zF,zF,zF,zF,zF,zF,zF,zF,zF] rfl rfl (any_of HT_.out zq3) (fun _ _ _ h => h) (Or.inl ⟨by rfl, ?_⟩) ?_ ?_
         rotate_left
         ·
          intro w'
          go_simp
          with_reducible rfl
         rotate_left
         ·
          simp only [Act.put, zS, zT, zU, i64_w, i32_w]
          rfl
         refine pure_ (i := 8) (N := some 34) (v := ?_) (a' := ?_) #[zB,zB,zB,zB,zB,zB,zB,zB,zB,zF,zF,zF,zF,zF,zF,zF,zF,zF,zF,zF,zF,zF,zF] rfl rfl (any_of HT_.out zq3) (fun _ _ _ h => h) (Or.inl ⟨by rfl, ?_⟩) ?_ ?_
         rotate_left
         ·
          intro w'
          go_simp
          with_reducible rfl
         rotate_left
         ·
          simp only [Act.put, zS, zT, zU, i64_w, i32_w]
          rfl
         refine pure_ (i := 9) (N := some 35) (v := ?_) (a' := ?_) #[zB,zB,zB,zB,zB,zB,zB,zB,zB,zB,zF,zF,zF,zF,zF,zF,zF,zF,zF,zF,zF,zF,zF] rfl rfl (any_of HT_.out zq3) (fun _ _ _ h => h) (Or.inl ⟨by rfl, ?_⟩) ?_ ?_
         rotate_left
         ·
          intro w'
          go_simp
          with_reducible rfl
         rotate_left
         ·
          simp only [Act.put, zS, zT, zU, i64_w, i32_w]
          rfl
         refine pure_ (i := 10) (N := some 36) (v := ?_) (a' := ?_) #[zB,zB,zB,zB,zB,zB,zB,zB,zB,zB,zB,zF,zF,zF,zF,zF,zF,zF,zF,zF,zF,zF,zF] rfl rfl (any_of HT_.out zq3) (fun _ _ _ h => h) (Or.inl ⟨by rfl, ?_⟩) ?_ ?_
         rotate_left
         ·
          intro w'
          go_simp
          with_reducible rfl
         rotate_left
         ·
          simp only [Act.put, zS, zT, zU, i64_w, i32_w]
          rfl
         refine pure_ (i := 11) (N := some 37) (v := undef) (a' := ?_) #[zB,zB,zB,zB,zB,zB,zB,zB,zB,zB,zB,zB,zF,zF,zF,zF,zF,zF,zF,zF,zF,zF,zF] rfl rfl (any_of HT_.out zq3) (fun _ _ _ h => h) (Or.inr ⟨by rfl, rfl⟩) ?_ ?_
         rotate_left
         ·
          simp only [Act.put, zS, zT, zU, i64_w, i32_w]
          rfl
         refine pure_ (i := 12) (N := some 38) (v := undef) (a' := ?_) #[zB,zB,zB,zB,zB,zB,zB,zB,zB,zB,zB,zB,zB,zF,zF,zF,zF,zF,zF,zF,zF,zF,zF] rfl rfl (any_of HT_.out zq3) (fun _ _ _ h => h) (Or.inr ⟨by rfl, rfl⟩) ?_ ?_
         rotate_left
         ·
          simp only [Act.put, zS, zT, zU, i64_w, i32_w]
          rfl
         refine pure_ (i := 13) (N := some 39) (v := undef) (a' := ?_) #[zB,zB,zB,zB,zB,zB,zB,zB,zB,zB,zB,zB,zB,zB,zF,zF,zF,zF,zF,zF,zF,zF,zF] rfl rfl (any_of HT_.out zq3) (fun _ _ _ h => h) (Or.inr ⟨by rfl, rfl⟩) ?_ ?_
         rotate_left
         ·
          simp only [Act.put, zS, zT, zU, i64_w, i32_w]
          rfl
         refine pure_ (i := 14) (N := some 40) (v := undef) (a' := ?_) #[zB,zB,zB,zB,zB,zB,zB,zB,zB,zB,zB,zB,zB,zB,zB,zF,zF,zF,zF,zF,zF,zF,zF] rfl rfl (any_of HT_.out zq3) (fun _ _ _ h => h) (Or.inr ⟨by rfl, rfl⟩) ?_ ?_
         rotate_left
         ·
          simp only [Act.put, zS, zT, zU, i64_w, i32_w]
          rfl
         refine pure_ (i := 15) (N := some 41) (v := undef) (a' := ?_) #[zB,zB,zB,zB,zB,zB,zB,zB,zB,zB,zB,zB,zB,zB,zB,zB,zF,zF,zF,zF,zF,zF,zF] rfl rfl (any_of HT_.out zq3) (fun _ _ _ h => h) (Or.inr ⟨by rfl, rfl⟩) ?_ ?_
         rotate_left
         ·
          simp only [Act.put, zS, zT, zU, i64_w, i32_w]
          rfl
         refine pure_ (i := 16) (N := some 42) (v := undef) (a' := ?_) #[zB,zB,zB,zB,zB,zB,zB,zB,zB,zB,zB,zB,zB,zB,zB,zB,zB,zF,zF,zF,zF,zF,zF] rfl rfl (any_of HT_.out zq3) (fun _ _ _ h => h) (Or.inr ⟨by rfl, rfl⟩) ?_ ?_
         rotate_left
         ·
          simp only [Act.put, zS, zT, zU, i64_w, i32_w]
          rfl
         refine pure_ (i := 17) (N := some 43) (v := undef) (a' := ?_) #[zB,zB,zB,zB,zB,zB,zB,zB,zB,zB,zB,zB,zB,zB,zB,zB,zB,zB,zF,zF,zF,zF,zF] rfl rfl (any_of HT_.out zq3) (fun _ _ _ h => h) (Or.inr ⟨by rfl, rfl⟩) ?_ ?_
         rotate_left
         ·
          simp only [Act.put, zS, zT, zU, i64_w, i32_w]
          rfl
         refine pure_ (i := 18) (N := some 44) (v := undef) (a' := ?_) #[zB,zB,zB,zB,zB,zB,zB,zB,zB,zB,zB,zB,zB,zB,zB,zB,zB,zB,zB,zF,zF,zF,zF] rfl rfl (any_of HT_.out zq3) (fun _ _ _ h => h) (Or.inr ⟨by rfl, rfl⟩) ?_ ?_
         rotate_left
         ·
          simp only [Act.put, zS, zT, zU, i64_w, i32_w]
          rfl
         refine pure_ (i := 19) (N := some 45) (v := undef) (a' := ?_) #[zB,zB,zB,zB,zB,zB,zB,zB,zB,zB,zB,zB,zB,zB,zB,zB,zB,zB,zB,zB,zF,zF,zF] rfl rfl (any_of HT_.out zq3) (fun _ _ _ h => h) (Or.inr ⟨by rfl, rfl⟩) ?_ ?_
         rotate_left
         ·
          simp only [Act.put, zS, zT, zU, i64_w, i32_w]
          rfl
         refine pure_ (i := 20) (N := some 46) (v := ?_) (a' := ?_) #[zB,zB,zB,zB,zB,zB,zB,zB,zB,zB,zB,zB,zB,zB,zB,zB,zB,zB,zB,zB,zB,zF,zF] rfl rfl (any_of HT_.out zq3) (fun _ _ _ h => h) (Or.inl ⟨by rfl, ?_⟩) ?_ ?_
         rotate_left
         ·
          intro w'
          go_simp
          with_reducible rfl
         rotate_left
         ·
          simp only [Act.put, zS, zT, zU, i64_w, i32_w]
          rfl
         refine pure_ (i := 21) (N := some 47) (v := ?_) (a' := ?_) #[zB,zB,zB,zB,zB,zB,zB,zB,zB,zB,zB,zB,zB,zB,zB,zB,zB,zB,zB,zB,zB,zB,zF] rfl rfl (any_of HT_.out zq3) (fun _ _ _ h => h) (Or.inl ⟨by rfl, ?_⟩) ?_ ?_
         rotate_left
         ·
          intro w'
          go_simp
          with_reducible rfl
         rotate_left
         ·
          simp only [Act.put, zS, zT, zU, i64_w, i32_w]
          rfl
         refine pure_ (i := 22) (N := some 25) (v := ?_) (a' := ?_) #[zB,zB,zB,zB,zB,zB,zB,zB,zB,zB,zB,zB,zB,zB,zB,zB,zB,zB,zB,zB,zB,zB,zB] rfl rfl (any_of HT_.out zq3) (fun _ _ _ h => h) (Or.inl ⟨by rfl, ?_⟩) ?_ ?_
         rotate_left
         ·
          intro w'
          go_simp
          with_reducible rfl
         rotate_left
         ·
          simp only [Act.put, zS, zT, zU, i64_w, i32_w]
          rfl
         refine done_ (done_of HT_.out zq3) ?_
         try go_wp2
         go_roundg k1
         case measure => have := HK1.out; omega
         case rel => exact ⟨(wrap64 (x10_1 + 1)), zq4, H', ⟨by have := HK1.out; omega⟩, ⟨by repeat (first | (with_reducible first | exact HB.out | apply zA | apply zN | apply zD | refine below_set ?_ GE252.out) | exact HB.out)⟩⟩
        replace c12 := Bool.eq_false_iff.mpr c12
        subst c12
        have H1 : (some 1) = some r := by rw [if_neg (show ¬ (false = true) by decide)] at H; exact H
        clear H
        have H := H1
        clear H1
        obtain rfl := Option.some.inj H
        have p251 : 0 ≤ (x10_1 : Int) := zX zq2
        have q251 : x10_1 < (l0.length : Int) := zX zq2
        obtain ⟨ad251, e251, hx251_0, hx251_1, hx251_2⟩ := at_T118 HR0.out x10_1 p251 q251
        cases e251
        replace hx251_0 := (HB.out.cell (zL w _ hx251_0)).trans hx251_0
        replace hx251_1 := (HB.out.cell (zL w _ hx251_1)).trans hx251_1
        replace hx251_2 := (HB.out.cell (zL w _ hx251_2)).trans hx251_2
        replace p251 := eq_true p251
        replace q251 := eq_true q251
        try go_wp2_with (first | ((with_reducible refine gate_dst (N := 4) rfl ?_); refine box_event ?hg (N := 4) ?hd (cs := #[.string (⟨#[]⟩ : ByteArray), .int .i64 0, .string (⟨#[]⟩ : ByteArray)]) (t := 118) ?hr ?_; (case hd => rfl); (case hg => rfl); (case hr => first | (go_simp; done) | (go_simp; rfl)); intro gb252 hg w33 hbox hb; have n0_ := zK (below_step zq0 hb); have n1_ := zK (hbox); have n2_ := zK ((by rw [hg]; exact (below_size zq0) : w.heap.size ≤ gb252)); have n3_ := zK ((by rw [hg]; exact (below_size zq0) : w.heap.size ≤ gb252)); clear HB; have HB := n0_; have BK252 := n1_; have GW252 := n2_; have GE252 := n3_; clear n0_ n1_ n2_ n3_; clear hb hbox hg; have hcz34_0 : w33.cell? ⟨gb252, 0, none⟩ = some (.string (⟨#[]⟩ : ByteArray)) := (blk_cell BK252.out 0).trans rfl; have hcz34_1 : w33.cell? ⟨gb252, 1, none⟩ = some (.int .i64 0) := (blk_cell BK252.out 1).trans rfl; have hcz34_2 : w33.cell? ⟨gb252, 2, none⟩ = some (.string (⟨#[]⟩ : ByteArray)) := (blk_cell BK252.out 2).trans rfl; have hfz34_0 := blk_frozen BK252.out 0; have hfz34_1 := blk_frozen BK252.out 1; have hfz34_2 := blk_frozen BK252.out 2) | ((with_reducible refine gate_callee (f := 140) rfl ?_); refine goesL_ (some 18) rfl rfl Tryz.func140 zq3 rfl #[.string ((rd_T118 l0 x10_1).f0)] rfl zq1 ?_; (with_reducible refine (impl_NameFault.calls k1 ((rd_T118 l0 x10_1).f0) t253 _ A6.out).mono ?_); rintro e w' ⟨rfl, ⟨nd, rfl⟩⟩; refine ⟨_, rfl, ?_⟩) | ((with_reducible refine gate_callee (f := 67) rfl ?_); refine goesL_ (some 23) rfl rfl Tryz.func67 zq3 rfl #[.int .i64 ((rd_T118 l0 x10_1).f1), .int .i64 1, .int .i64 3] rfl zq1 ?_; (with_reducible refine (impl_within.calls ((rd_T118 l0 x10_1).f1) 1 3 true _ A8.out).mono ?_); rintro e w' ⟨rfl, ⟨nd, rfl⟩⟩; refine ⟨_, rfl, ?_⟩))
        have n0_ : Aside0 ((((w33.setCell ⟨gb252, 0, none⟩ (.string ((rd_T118 l0 x10_1).f0))).setCell ⟨gb252, 1, none⟩ (.int .i64 ((rd_T118 l0 x10_1).f1))).setCell ⟨gb252, 2, none⟩ (.string ((rd_T118 l0 x10_1).f2))).heap[gb252]? = some (.cells #[.string ((rd_T118 l0 x10_1).f0), .int .i64 ((rd_T118 l0 x10_1).f1), .string ((rd_T118 l0 x10_1).f2)] 118 (0, 0))) := ⟨by (with_reducible repeat (first | refine zM ?_ _ | refine zP ?_ | refine zQ ?_ _)); refine blk_put (cs := #[.string ((rd_T118 l0 x10_1).f0), .int .i64 ((rd_T118 l0 x10_1).f1), .string (⟨#[]⟩ : ByteArray)]) ?_ 2 _ rfl; (with_reducible repeat (first | refine zM ?_ _ | refine zP ?_ | refine zQ ?_ _)); refine blk_put (cs := #[.string ((rd_T118 l0 x10_1).f0), .int .i64 0, .string (⟨#[]⟩ : ByteArray)]) ?_ 1 _ rfl; (with_reducible repeat (first | refine zM ?_ _ | refine zP ?_ | refine zQ ?_ _)); refine blk_put (cs := #[.string (⟨#[]⟩ : ByteArray), .int .i64 0, .string (⟨#[]⟩ : ByteArray)]) ?_ 0 _ rfl; (with_reducible repeat (first | refine zM ?_ _ | refine zP ?_ | refine zQ ?_ _)); exact BK252.out⟩
        have n1_ : Aside0 (Below w.heap.size w (((w33.setCell ⟨gb252, 0, none⟩ (.string ((rd_T118 l0 x10_1).f0))).setCell ⟨gb252, 1, none⟩ (.int .i64 ((rd_T118 l0 x10_1).f1))).setCell ⟨gb252, 2, none⟩ (.string ((rd_T118 l0 x10_1).f2)))) := ⟨by repeat (first | (with_reducible first | exact HB.out | apply zA | apply zN | apply zD | refine below_set ?_ GE252.out) | exact HB.out)⟩
        (try clear BK252)
        (try clear HB)
        generalize (((w33.setCell ⟨gb252, 0, none⟩ (.string ((rd_T118 l0 x10_1).f0))).setCell ⟨gb252, 1, none⟩ (.int .i64 ((rd_T118 l0 x10_1).f1))).setCell ⟨gb252, 2, none⟩ (.string ((rd_T118 l0 x10_1).f2))) = w35 at n0_ n1_ ⊢
        have BK252 := n0_
        have HB := n1_
        clear n0_ n1_
        (try (rw [drewN_self w35]; generalize hq_ : World.drewN w35 _ = w35; have n0_ : Aside0 (w35.heap[gb252]? = some (.cells #[.string ((rd_T118 l0 x10_1).f0), .int .i64 ((rd_T118 l0 x10_1).f1), .string ((rd_T118 l0 x10_1).f2)] 118 (0, 0))) := ⟨by rw [← hq_]; exact (by (with_reducible repeat (first | refine zM ?_ _ | refine zP ?_ | refine zQ ?_ _)); exact BK252.out)⟩; have n1_ : Aside0 (Below w.heap.size w w35) := ⟨by rw [← hq_]; exact (by repeat (first | (with_reducible first | exact HB.out | apply zA | apply zN | apply zD | refine below_set ?_ GE252.out) | exact HB.out))⟩; clear BK252 HB hq_; have BK252 := n0_; have HB := n1_; clear n0_ n1_))
        have n0_ := zK (zP BK252.out)
        have n1_ := zK (zD HB.out)
        clear BK252
        clear HB
        have BK252 := n0_
        have HB := n1_
        clear n0_ n1_
        refine start_ (n := 23) (S := fun w' => w'.cell? ⟨gb252, 0, none⟩ = some (.string ((rd_T118 l0 x10_1).f0)) ∧ w'.cell? ⟨gb252, 1, none⟩ = some (.int .i64 ((rd_T118 l0 x10_1).f1)) ∧ w'.cell? ⟨gb252, 2, none⟩ = some (.string ((rd_T118 l0 x10_1).f2))) (ds := []) #[zF,zF,zF,zF,zF,zF,zF,zF,zF,zF,zF,zF,zF,zF,zF,zF,zF,zF,zF,zF,zF,zF,zF] zq3 rfl rfl ⟨(blk_cell BK252.out 0).trans rfl, (blk_cell BK252.out 1).trans rfl, (blk_cell BK252.out 2).trans rfl⟩ (fun hHeld => ?_); refine with_tabW impl_TreeFault.tab10 impl_TreeFault.bits10 (fun HT_ HW_ => ?_)
        generalize w35.drew = w36 at BK252 HB hHeld ⊢
        refine pure_ (i := 0) (N := some 26) (v := ?_) (a' := ?_) #[zB,zF,zF,zF,zF,zF,zF,zF,zF,zF,zF,zF,zF,zF,zF,zF,zF,zF,zF,zF,zF,zF,zF] rfl rfl (any_of HT_.out zq3) (fun _ _ _ h => h) (Or.inl ⟨by rfl, ?_⟩) ?_ ?_
        rotate_left
        ·
         intro w'
         go_simp
         with_reducible rfl
        rotate_left
        ·
         simp only [Act.put, zS, zT, zU, i64_w, i32_w]
         rfl
        refine pure_ (i := 3) (N := some 29) (v := ?_) (a' := ?_) #[zB,zF,zF,zB,zF,zF,zF,zF,zF,zF,zF,zF,zF,zF,zF,zF,zF,zF,zF,zF,zF,zF,zF] rfl rfl (any_of HT_.out zq3) (fun _ _ _ h => h) (Or.inl ⟨by rfl, ?_⟩) ?_ ?_
        rotate_left
        ·
         intro w'
         go_simp
         with_reducible rfl
        rotate_left
        ·
         simp only [Act.put, zS, zT, zU, i64_w, i32_w]
         rfl
        refine take_ (i := 1) (N := some 27) (v := ?_) (a' := ?_) #[zB,zB,zF,zB,zF,zF,zF,zF,zF,zF,zF,zF,zF,zF,zF,zF,zF,zF,zF,zF,zF,zF,zF] rfl rfl (take_ofW HT_.out HW_.out zq3) (fun _ _ _ h => h) (Or.inl ⟨by rfl, ?_⟩) hHeld ?_ ?_
        rotate_left
        ·
         rintro w' ⟨s0, s1, s2⟩
         go_simp
         with_reducible rfl
        rotate_left
        ·
         simp only [Act.put, zS, zT, zU, i64_w, i32_w]
         rfl
        refine take_ (i := 4) (N := some 30) (v := ?_) (a' := ?_) #[zB,zB,zF,zB,zB,zF,zF,zF,zF,zF,zF,zF,zF,zF,zF,zF,zF,zF,zF,zF,zF,zF,zF] rfl rfl (take_ofW HT_.out HW_.out zq3) (fun _ _ _ h => h) (Or.inl ⟨by rfl, ?_⟩) hHeld ?_ ?_
        rotate_left
        ·
         rintro w' ⟨s0, s1, s2⟩
         go_simp
         with_reducible rfl
        rotate_left
        ·
         simp only [Act.put, zS, zT, zU, i64_w, i32_w]
         rfl
        refine one_ (i := 2) (N := some 28) #[zB,zB,zB,zB,zB,zF,zF,zF,zF,zF,zF,zF,zF,zF,zF,zF,zF,zF,zF,zF,zF,zF,zF] rfl rfl (one_of HT_.out zq3) zq13 (fun K hK => ?_)
        refine goes_ Tryz.func235 zq3 rfl #[.int .i64 ((rd_T118 l0 x10_1).f1)] zq28 rfl rfl zq1 ?_
        with_reducible refine (impl_kindAt.calls ((rd_T118 l0 x10_1).f1) t255 _ A10.out).mono ?_
        rintro e w' ⟨rfl, ⟨nd, rfl⟩⟩
        refine ⟨_, rfl, ?_⟩
        refine hK.out _ _ ⟨(blk_cell BK252.out 0).trans rfl, (blk_cell BK252.out 1).trans rfl, (blk_cell BK252.out 2).trans rfl⟩ (fun hHeld => ?_)
        clear hK K
        refine norm_ (a' := ?_) ?_ ?_
        rotate_left
        ·
         show Act.put _ (some 28) _ = _
         simp only [Act.put, zS, zT, zU, i64_w, i32_w]
         rfl
        refine one_ (i := 5) (N := some 31) #[zB,zB,zB,zB,zB,zB,zF,zF,zF,zF,zF,zF,zF,zF,zF,zF,zF,zF,zF,zF,zF,zF,zF] rfl rfl (one_of HT_.out zq3) zq13 (fun K hK => ?_)
        refine goes_ Tryz.func90 zq3 rfl #[.int .i64 t255, .string ((rd_T118 l0 x10_1).f2)] zq28 rfl rfl zq1 ?_
        with_reducible refine (impl_isIdOf.calls t255 ((rd_T118 l0 x10_1).f2) false _ A11.out).mono ?_
        rintro e w37 ⟨rfl, hb⟩
        refine ⟨_, rfl, ?_⟩
        have n0_ := zK (blk_below (g := gb252) (o := .cells #[.string ((rd_T118 l0 x10_1).f0), .int .i64 ((rd_T118 l0 x10_1).f1), .string ((rd_T118 l0 x10_1).f2)] 118 (0, 0)) (by (with_reducible repeat (first | refine zM ?_ _ | refine zP ?_ | refine zQ ?_ _)); exact BK252.out) hb)
        have n1_ := zK (below_step (by repeat (first | (with_reducible first | exact HB.out | apply zA | apply zN | apply zD | refine below_set ?_ GE252.out) | exact HB.out)) hb)
        clear BK252
        clear HB
        have BK252 := n0_
        have HB := n1_
        clear n0_ n1_
        (try clear hb)
        (try clear hb2)
        (try clear hk)
        (try clear hi)
        refine hK.out _ _ ⟨(blk_cell BK252.out 0).trans rfl, (blk_cell BK252.out 1).trans rfl, (blk_cell BK252.out 2).trans rfl⟩ (fun hHeld => ?_)
        clear hK K
        refine norm_ (a' := ?_) ?_ ?_
        rotate_left
        ·
         show Act.put _ (some 31) _ = _
         simp only [Act.put, zS, zT, zU, i64_w, i32_w]
         rfl
        refine pure_ (i := 6) (N := some 32) (v := ?_) (a' := ?_) #[zB,zB,zB,zB,zB,zB,zB,zF,zF,zF,zF,zF,zF,zF,zF,zF,zF,zF,zF,zF,zF,zF,zF] rfl rfl (any_of HT_.out zq3) (fun _ _ _ h => h) (Or.inl ⟨by rfl, ?_⟩) ?_ ?_
        rotate_left
        ·
         intro w'
         go_simp
         with_reducible rfl
        rotate_left
        ·
         simp only [Act.put, zS, zT, zU, i64_w, i32_w]
         rfl
        refine pure_ (i := 7) (N := some 33) (v := ?_) (a' := ?_) #[zB,zB,zB,zB,zB,zB,zB,zB,zF,zF,zF,zF,zF,zF,zF,zF,zF,zF,zF,zF,zF,zF,zF] rfl rfl (any_of HT_.out zq3) (fun _ _ _ h => h) (Or.inl ⟨by rfl, ?_⟩) ?_ ?_
        rotate_left
        ·
         intro w'
         go_simp
         with_reducible rfl
        rotate_left
        ·
         simp only [Act.put, zS, zT, zU, i64_w, i32_w]
         rfl
        refine pure_ (i := 8) (N := some 34) (v := undef) (a' := ?_) #[zB,zB,zB,zB,zB,zB,zB,zB,zB,zF,zF,zF,zF,zF,zF,zF,zF,zF,zF,zF,zF,zF,zF] rfl rfl (any_of HT_.out zq3) (fun _ _ _ h => h) (Or.inr ⟨by rfl, rfl⟩) ?_ ?_
        rotate_left
        ·
         simp only [Act.put, zS, zT, zU, i64_w, i32_w]
         rfl
        refine pure_ (i := 9) (N := some 35) (v := undef) (a' := ?_) #[zB,zB,zB,zB,zB,zB,zB,zB,zB,zB,zF,zF,zF,zF,zF,zF,zF,zF,zF,zF,zF,zF,zF] rfl rfl (any_of HT_.out zq3) (fun _ _ _ h => h) (Or.inr ⟨by rfl, rfl⟩) ?_ ?_
        rotate_left
        ·
         simp only [Act.put, zS, zT, zU, i64_w, i32_w]
         rfl
        refine pure_ (i := 10) (N := some 36) (v := undef) (a' := ?_) #[zB,zB,zB,zB,zB,zB,zB,zB,zB,zB,zB,zF,zF,zF,zF,zF,zF,zF,zF,zF,zF,zF,zF] rfl rfl (any_of HT_.out zq3) (fun _ _ _ h => h) (Or.inr ⟨by rfl, rfl⟩) ?_ ?_
        rotate_left
        ·
         simp only [Act.put, zS, zT, zU, i64_w, i32_w]
         rfl
        refine pure_ (i := 11) (N := some 37) (v := undef) (a' := ?_) #[zB,zB,zB,zB,zB,zB,zB,zB,zB,zB,zB,zB,zF,zF,zF,zF,zF,zF,zF,zF,zF,zF,zF] rfl rfl (any_of HT_.out zq3) (fun _ _ _ h => h) (Or.inr ⟨by rfl, rfl⟩) ?_ ?_
        rotate_left
        ·
         simp only [Act.put, zS, zT, zU, i64_w, i32_w]
         rfl
        refine pure_ (i := 12) (N := some 38) (v := undef) (a' := ?_) #[zB,zB,zB,zB,zB,zB,zB,zB,zB,zB,zB,zB,zB,zF,zF,zF,zF,zF,zF,zF,zF,zF,zF] rfl rfl (any_of HT_.out zq3) (fun _ _ _ h => h) (Or.inr ⟨by rfl, rfl⟩) ?_ ?_
        rotate_left
        ·
         simp only [Act.put, zS, zT, zU, i64_w, i32_w]
         rfl
        refine pure_ (i := 13) (N := some 39) (v := undef) (a' := ?_) #[zB,zB,zB,zB,zB,zB,zB,zB,zB,zB,zB,zB,zB,zB,zF,zF,zF,zF,zF,zF,zF,zF,zF] rfl rfl (any_of HT_.out zq3) (fun _ _ _ h => h) (Or.inr ⟨by rfl, rfl⟩) ?_ ?_
        rotate_left
        ·
         simp only [Act.put, zS, zT, zU, i64_w, i32_w]
         rfl
        refine pure_ (i := 14) (N := some 40) (v := undef) (a' := ?_) #[zB,zB,zB,zB,zB,zB,zB,zB,zB,zB,zB,zB,zB,zB,zB,zF,zF,zF,zF,zF,zF,zF,zF] rfl rfl (any_of HT_.out zq3) (fun _ _ _ h => h) (Or.inr ⟨by rfl, rfl⟩) ?_ ?_
        rotate_left
        ·
         simp only [Act.put, zS, zT, zU, i64_w, i32_w]
         rfl
        refine pure_ (i := 15) (N := some 41) (v := undef) (a' := ?_) #[zB,zB,zB,zB,zB,zB,zB,zB,zB,zB,zB,zB,zB,zB,zB,zB,zF,zF,zF,zF,zF,zF,zF] rfl rfl (any_of HT_.out zq3) (fun _ _ _ h => h) (Or.inr ⟨by rfl, rfl⟩) ?_ ?_
        rotate_left
        ·
         simp only [Act.put, zS, zT, zU, i64_w, i32_w]
         rfl
        refine pure_ (i := 16) (N := some 42) (v := undef) (a' := ?_) #[zB,zB,zB,zB,zB,zB,zB,zB,zB,zB,zB,zB,zB,zB,zB,zB,zB,zF,zF,zF,zF,zF,zF] rfl rfl (any_of HT_.out zq3) (fun _ _ _ h => h) (Or.inr ⟨by rfl, rfl⟩) ?_ ?_
        rotate_left
        ·
         simp only [Act.put, zS, zT, zU, i64_w, i32_w]
         rfl
        refine pure_ (i := 17) (N := some 43) (v := undef) (a' := ?_) #[zB,zB,zB,zB,zB,zB,zB,zB,zB,zB,zB,zB,zB,zB,zB,zB,zB,zB,zF,zF,zF,zF,zF] rfl rfl (any_of HT_.out zq3) (fun _ _ _ h => h) (Or.inr ⟨by rfl, rfl⟩) ?_ ?_
        rotate_left
        ·
         simp only [Act.put, zS, zT, zU, i64_w, i32_w]
         rfl
        refine pure_ (i := 18) (N := some 44) (v := undef) (a' := ?_) #[zB,zB,zB,zB,zB,zB,zB,zB,zB,zB,zB,zB,zB,zB,zB,zB,zB,zB,zB,zF,zF,zF,zF] rfl rfl (any_of HT_.out zq3) (fun _ _ _ h => h) (Or.inr ⟨by rfl, rfl⟩) ?_ ?_
        rotate_left
        ·
         simp only [Act.put, zS, zT, zU, i64_w, i32_w]
         rfl
        refine pure_ (i := 19) (N := some 45) (v := undef) (a' := ?_) #[zB,zB,zB,zB,zB,zB,zB,zB,zB,zB,zB,zB,zB,zB,zB,zB,zB,zB,zB,zB,zF,zF,zF] rfl rfl (any_of HT_.out zq3) (fun _ _ _ h => h) (Or.inr ⟨by rfl, rfl⟩) ?_ ?_
        rotate_left
        ·
         simp only [Act.put, zS, zT, zU, i64_w, i32_w]
         rfl
        refine pure_ (i := 20) (N := some 46) (v := undef) (a' := ?_) #[zB,zB,zB,zB,zB,zB,zB,zB,zB,zB,zB,zB,zB,zB,zB,zB,zB,zB,zB,zB,zB,zF,zF] rfl rfl (any_of HT_.out zq3) (fun _ _ _ h => h) (Or.inr ⟨by rfl, rfl⟩) ?_ ?_
        rotate_left
        ·
         simp only [Act.put, zS, zT, zU, i64_w, i32_w]
         rfl
        refine pure_ (i := 21) (N := some 47) (v := ?_) (a' := ?_) #[zB,zB,zB,zB,zB,zB,zB,zB,zB,zB,zB,zB,zB,zB,zB,zB,zB,zB,zB,zB,zB,zB,zF] rfl rfl (any_of HT_.out zq3) (fun _ _ _ h => h) (Or.inl ⟨by rfl, ?_⟩) ?_ ?_
        rotate_left
        ·
         intro w'
         go_simp
         with_reducible rfl
        rotate_left
        ·
         simp only [Act.put, zS, zT, zU, i64_w, i32_w]
         rfl
        refine pure_ (i := 22) (N := some 25) (v := ?_) (a' := ?_) #[zB,zB,zB,zB,zB,zB,zB,zB,zB,zB,zB,zB,zB,zB,zB,zB,zB,zB,zB,zB,zB,zB,zB] rfl rfl (any_of HT_.out zq3) (fun _ _ _ h => h) (Or.inl ⟨by rfl, ?_⟩) ?_ ?_
        rotate_left
        ·
         intro w'
         go_simp
         with_reducible rfl
        rotate_left
        ·
         simp only [Act.put, zS, zT, zU, i64_w, i32_w]
         rfl
        refine done_ (done_of HT_.out zq3) ?_
        try go_wp2
        go_ret
        exact ⟨zq5, (by repeat (first | (with_reducible first | exact HB.out | apply zA | apply zN | apply zD | refine below_set ?_ GE252.out) | exact HB.out))⟩
       replace c9 := Bool.eq_false_iff.mpr c9
       subst c9
       have H1 : (some 3) = some r := by rw [if_neg (show ¬ (false = true) by decide)] at H; exact H
       clear H
       have H := H1
       clear H1
       obtain rfl := Option.some.inj H
       have p251 : 0 ≤ (x10_1 : Int) := zX zq2
       have q251 : x10_1 < (l0.length : Int) := zX zq2
       obtain ⟨ad251, e251, hx251_0, hx251_1, hx251_2⟩ := at_T118 HR0.out x10_1 p251 q251
       cases e251
       replace hx251_0 := (HB.out.cell (zL w _ hx251_0)).trans hx251_0
       replace hx251_1 := (HB.out.cell (zL w _ hx251_1)).trans hx251_1
       replace hx251_2 := (HB.out.cell (zL w _ hx251_2)).trans hx251_2
       replace p251 := eq_true p251
       replace q251 := eq_true q251
       go_wp2_with (first | ((with_reducible refine gate_dst (N := 4) rfl ?_); refine box_event ?hg (N := 4) ?hd (cs := #[.string (⟨#[]⟩ : ByteArray), .int .i64 0, .string (⟨#[]⟩ : ByteArray)]) (t := 118) ?hr ?_; (case hd => rfl); (case hg => rfl); (case hr => first | (go_simp; done) | (go_simp; rfl)); intro gb252 hg w38 hbox hb; have n0_ := zK (below_step zq0 hb); have n1_ := zK (hbox); have n2_ := zK ((by rw [hg]; exact (below_size zq0) : w.heap.size ≤ gb252)); have n3_ := zK ((by rw [hg]; exact (below_size zq0) : w.heap.size ≤ gb252)); clear HB; have HB := n0_; have BK252 := n1_; have GW252 := n2_; have GE252 := n3_; clear n0_ n1_ n2_ n3_; clear hb hbox hg; have hcz39_0 : w38.cell? ⟨gb252, 0, none⟩ = some (.string (⟨#[]⟩ : ByteArray)) := (blk_cell BK252.out 0).trans rfl; have hcz39_1 : w38.cell? ⟨gb252, 1, none⟩ = some (.int .i64 0) := (blk_cell BK252.out 1).trans rfl; have hcz39_2 : w38.cell? ⟨gb252, 2, none⟩ = some (.string (⟨#[]⟩ : ByteArray)) := (blk_cell BK252.out 2).trans rfl; have hfz39_0 := blk_frozen BK252.out 0; have hfz39_1 := blk_frozen BK252.out 1; have hfz39_2 := blk_frozen BK252.out 2) | ((with_reducible refine gate_callee (f := 140) rfl ?_); refine goesL_ (some 18) rfl rfl Tryz.func140 zq3 rfl #[.string ((rd_T118 l0 x10_1).f0)] rfl zq1 ?_; (with_reducible refine (impl_NameFault.calls k1 ((rd_T118 l0 x10_1).f0) t253 _ A6.out).mono ?_); rintro e w' ⟨rfl, ⟨nd, rfl⟩⟩; refine ⟨_, rfl, ?_⟩) | ((with_reducible refine gate_callee (f := 67) rfl ?_); refine goesL_ (some 23) rfl rfl Tryz.func67 zq3 rfl #[.int .i64 ((rd_T118 l0 x10_1).f1), .int .i64 1, .int .i64 3] rfl zq1 ?_; (with_reducible refine (impl_within.calls ((rd_T118 l0 x10_1).f1) 1 3 false _ A8.out).mono ?_); rintro e w' ⟨rfl, ⟨nd, rfl⟩⟩; refine ⟨_, rfl, ?_⟩))
       go_ret
       exact ⟨zq5, (by repeat (first | (with_reducible first | exact HB.out | apply zA | apply zN | apply zD | refine below_set ?_ GE252.out) | exact HB.out))⟩
      rw [if_neg c7] at H
      have c7b0 : (t253 == 0) = false := beq_eq_false_iff_ne.mpr c7
      have c7b1 : (t253 != 0) = true := bne_iff_ne.mpr c7
      obtain rfl := Option.some.inj H
      have p251 : 0 ≤ (x10_1 : Int) := zX zq2
      have q251 : x10_1 < (l0.length : Int) := zX zq2
      obtain ⟨ad251, e251, hx251_0, hx251_1, hx251_2⟩ := at_T118 HR0.out x10_1 p251 q251
      cases e251
      replace hx251_0 := (HB.out.cell (zL w _ hx251_0)).trans hx251_0
      replace hx251_1 := (HB.out.cell (zL w _ hx251_1)).trans hx251_1
      replace hx251_2 := (HB.out.cell (zL w _ hx251_2)).trans hx251_2
      replace p251 := eq_true p251
      replace q251 := eq_true q251
      go_wp2_with (first | ((with_reducible refine gate_dst (N := 4) rfl ?_); refine box_event ?hg (N := 4) ?hd (cs := #[.string (⟨#[]⟩ : ByteArray), .int .i64 0, .string (⟨#[]⟩ : ByteArray)]) (t := 118) ?hr ?_; (case hd => rfl); (case hg => rfl); (case hr => first | (go_simp; done) | (go_simp; rfl)); intro gb252 hg w40 hbox hb; have n0_ := zK (below_step zq0 hb); have n1_ := zK (hbox); have n2_ := zK ((by rw [hg]; exact (below_size zq0) : w.heap.size ≤ gb252)); have n3_ := zK ((by rw [hg]; exact (below_size zq0) : w.heap.size ≤ gb252)); clear HB; have HB := n0_; have BK252 := n1_; have GW252 := n2_; have GE252 := n3_; clear n0_ n1_ n2_ n3_; clear hb hbox hg; have hcz41_0 : w40.cell? ⟨gb252, 0, none⟩ = some (.string (⟨#[]⟩ : ByteArray)) := (blk_cell BK252.out 0).trans rfl; have hcz41_1 : w40.cell? ⟨gb252, 1, none⟩ = some (.int .i64 0) := (blk_cell BK252.out 1).trans rfl; have hcz41_2 : w40.cell? ⟨gb252, 2, none⟩ = some (.string (⟨#[]⟩ : ByteArray)) := (blk_cell BK252.out 2).trans rfl; have hfz41_0 := blk_frozen BK252.out 0; have hfz41_1 := blk_frozen BK252.out 1; have hfz41_2 := blk_frozen BK252.out 2) | ((with_reducible refine gate_callee (f := 140) rfl ?_); refine goesL_ (some 18) rfl rfl Tryz.func140 zq3 rfl #[.string ((rd_T118 l0 x10_1).f0)] rfl zq1 ?_; (with_reducible refine (impl_NameFault.calls k1 ((rd_T118 l0 x10_1).f0) t253 _ A6.out).mono ?_); rintro e w' ⟨rfl, ⟨nd, rfl⟩⟩; refine ⟨_, rfl, ?_⟩))
      go_ret
      exact ⟨zq5, (by repeat (first | (with_reducible first | exact HB.out | apply zA | apply zN | apply zD | refine below_set ?_ GE252.out) | exact HB.out))⟩
     rw [if_neg c5] at H
     exact absurd H zq16
    rw [if_neg c4] at H
    exact absurd H zq16
   rw [if_neg c3] at H
   have c3b0 : decide (x10_1 < (l0.length : Int)) = false := decide_eq_false c3
   clear c3
   replace H := Option.bind_eq_some_iff.mp H
   obtain ⟨t249, A420, H⟩ := H
   replace H : ((impl_TextFault.f t249).bind fun t250 => (some t250)) = some r := H
   have A42 := zK A420
   clear A420
   replace H := Option.bind_eq_some_iff.mp H
   obtain ⟨t250, A430, H⟩ := H
   replace H : (some t250) = some r := H
   have A43 := zK A430
   clear A430
   obtain rfl := Option.some.inj H
   go_wp2_with (first | ((with_reducible refine gate_callee (f := 97) rfl ?_); refine goesL_ (some 50) rfl rfl Tryz.func97 zq3 rfl #[.slice A0 l0.length c0] rfl zq1 ?_; (with_reducible refine (impl_treeText.calls _ _ l0 t249 _ ?side1 ?side2 A42.out).mono ?_); (case side1 => repeat (first | exact (Kd.C_below HR0.out HB.out) | (with_reducible refine Kd.C_alloc ?_ _) | (with_reducible refine Kd.C_drewN ?_ _) | (with_reducible refine Kd.C_drew ?_))); (case side2 => exact HC0.out); rintro e w44 ⟨rfl, hb⟩; refine ⟨_, rfl, ?_⟩; have n0_ := zK (below_step zq0 hb); clear HB; have HB := n0_; clear n0_; (try clear hb); (try clear hb2); (try clear hk); (try clear hi)) | ((with_reducible refine gate_callee (f := 122) rfl ?_); refine goesL_ (some 51) rfl rfl Tryz.func122 zq3 rfl #[.string t249] rfl zq1 ?_; (with_reducible refine (impl_TextFault.calls t249 t250 _ A43.out).mono ?_); rintro e w45 ⟨rfl, hb⟩; refine ⟨_, rfl, ?_⟩; have n0_ := zK (below_step zq0 hb); clear HB; have HB := n0_; clear n0_; (try clear hb); (try clear hb2); (try clear hk); (try clear hi)))
   go_ret
   exact ⟨zq5, zq0⟩
def impl_decodeTree.l0 : Nat → ByteArray → List (S118) → List ByteArray → Int → Int → Option ((List (S118)) × Bool)
 | 0, _, _, _, _, _ => none
 | k + 1, x0, x4, x10, x11, x12 => if x12 < x11 then (if 0 ≤ x12 then (if x12 < (x10.length : Int) then ((strings_TrimSuffix.f (rdOf ByteArray.empty x10 x12) (⟨#[10]⟩ : ByteArray)).bind fun t267 => ((strings_Split.f t267 (⟨#[32]⟩ : ByteArray)).bind fun t268 => (if (t268.length : Int) = 3 then (if 0 < (t268.length : Int) then ((impl_modeOf.f k (rdOf ByteArray.empty t268 0)).bind fun t272 => (if t272 = 0 then (some (([] : List (S118)), false)) else (if 2 < (t268.length : Int) then ((impl_modeOf.f k (rdOf ByteArray.empty t268 0)).bind fun t275 => (if 1 < (t268.length : Int) then (if x4.length < 3518437208883 then (impl_decodeTree.l0 k x0 (x4 ++ [(⟨rdOf ByteArray.empty t268 2, t275, rdOf ByteArray.empty t268 1⟩ : S118)]) x10 x11 (wrap64 (x12 + 1))) else (none)) else (none))) else (none)))) else (none)) else (some (([] : List (S118)), false))))) else (none)) else (none)) else ((impl_TreeFault.f k x4).bind fun t264 => (if t264 = 0 then ((impl_treeText.f x4).bind fun t265 => (some (x4, (t265.toList == x0.toList)))) else (some (x4, false))))
def impl_decodeTree.f (k : Nat) (a0 : ByteArray) : Option ((List (S118)) × Bool) := (impl_linesOf.f a0).bind fun t261 => (impl_decodeTree.l0 k a0 (([] : List (S118))) t261 (t261.length : Int) 0)
def impl_decodeTree.T8 : Bool × List (List Nat × List Nat) := (true, [([], []), ([], []), ([1], [1]), ([2], [2]), ([], []), ([4], [4]), ([5], [5]), ([6], [6]), ([], []), ([8], [8]), ([9], [9]), ([3, 7, 10], [3, 7, 10]), ([11], [11]), ([0, 12, 7], [0, 12]), ([13, 13, 0, 1, 2, 3, 4, 5, 6, 7, 8, 9, 10, 11, 12, 13], [0, 13])])
def impl_decodeTree.B8 : List Nat := [0, 0, 2, 6, 0, 16, 48, 112, 0, 256, 768, 2046, 4094, 8191, 16383]
theorem impl_decodeTree.tab8 : rtab .any (opsOf Tryz.f126 8) = impl_decodeTree.T8 := by kernel_rfl
theorem impl_decodeTree.bits8 : waitsOk impl_decodeTree.T8.2 impl_decodeTree.B8 = true := by kernel_rfl
set_option maxHeartbeats 8000000 in
set_option maxRecDepth 100000 in
theorem impl_decodeTree.calls (k : Nat) (a0 : ByteArray) (r1 : List (S118)) (r2 : Bool) (w : World) (h : impl_decodeTree.f k a0 = some (r1, r2)) :
  Calls Tryz.prog 126 #[.string a0] w fun e w' => ∃ v0_ : Value, e = .returned (.tuple #[v0_, .bool r2]) ∧ Kd.R k118 118 w' w.heap.size (fun _ => True) v0_ r1 ∧ Below w.heap.size w w' := by
 have hu118 := Tryz.underlying118
 have HB := zK (Below.refl w.heap.size w)
 have H : ((impl_linesOf.f a0).bind fun t261 => (impl_decodeTree.l0 k a0 (([] : List (S118))) t261 (t261.length : Int) 0)) = some (r1, r2) := h
 clear h
 obtain ⟨y258, hy258⟩ : ∃ y_ : List (S118), y_ = (([] : List (S118))) := ⟨_, rfl⟩
 replace H : ((impl_linesOf.f a0).bind fun t261 => (impl_decodeTree.l0 k a0 y258 t261 (t261.length : Int) 0)) = some (r1, r2) := by first | (rw [hy258]; with_reducible exact H) | (have H2_ := (Option.bind_some _ _).symm.trans H; rw [hy258]; with_reducible exact H2_) | (have H2_ := (Option.bind_some _ _).symm.trans H; with_reducible exact H2_) | with_reducible exact H | (rw [hy258]; exact H) | exact H
 have Ny258 := zK hy258
 clear hy258
 replace H := Option.bind_eq_some_iff.mp H
 obtain ⟨t261, A20, H⟩ := H
 replace H : (impl_decodeTree.l0 k a0 y258 t261 (t261.length : Int) 0) = some (r1, r2) := H
 have A2 := zK A20
 clear A20
 have H' := zK H
 clear H
 go_enter Tryz.func126, Tryz.ntmps126
 go_wp2_with (first | ((with_reducible refine gate_dst (N := 8) rfl ?_); refine Kd.R_lit k118 _ 118 ?hg (N := 8) ?hd (xs := ([] : List (S118))) (inner := []) (ok := fun _ => True) (okp := fun _ => True) ?hr ?hp (fun _ hk => hk) trivial (Below.refl _ _) (Nat.le_refl _) zq16 ?_; (case hd => rfl); (case hg => rfl); (case hr => first | (go_simp; done) | (go_simp; rfl)); (case hp => exact (Reps.none _ _)); intro v259 w3 ho4 hb hg_ hnew_; clear hg_ hnew_; (first | rw [← Ny258.out] at ho4 | (simp only [Int.reduceToNat] at ho4; rw [← Ny258.out] at ho4)); have n0_ := zK (Kd.R_lower ho4 (below_size zq0)); have n1_ := zK (below_step zq0 hb); clear HB; have HO260 := n0_; have HB := n1_; clear n0_ n1_; clear hb ho4) | ((with_reducible refine gate_callee (f := 163) rfl ?_); refine goesL_ (some 10) rfl rfl Tryz.func163 zq3 rfl #[.string a0] rfl zq1 ?_; (with_reducible refine (impl_linesOf.calls a0 t261 _ A2.out).mono ?_); rintro e w5 ⟨v262, rfl, ho0, hb⟩; refine ⟨_, rfl, ?_⟩; have n0_ := zK (Kd.R_below (by (with_reducible repeat (first | apply zR | apply zV | apply zW)); exact HO260.out) hb); have n1_ := zK (Kd.R_lower ho0 (below_size zq0)); have n2_ := zK (below_step zq0 hb); clear HO260; clear HB; have HO260 := n0_; have HO263 := n1_; have HB := n2_; clear n0_ n1_ n2_; (try clear hb); (try clear hb2); (try clear hk); (try clear hi); (try clear ho0); obtain ⟨Ao6, co6, eo6⟩ := Kd.R_slice HO263.out; subst eo6))
 go_loopg [4, 12] k (fun kq v4 v12 w' => ∃ (x4_1 : List (S118)) (x12_1 : Int), v12 = .int .i64 x12_1 ∧ Aside0 (impl_decodeTree.l0 kq a0 x4_1 t261 (t261.length : Int) x12_1 = some (r1, r2)) ∧ Aside0 (kq ≤ k) ∧ Aside0 (Kd.R k118 118 w' w.heap.size (fun _ => True) v4 x4_1) ∧ Aside0 (Kd.R Kd.string 9 w' w.heap.size (fun _ => True) (.slice Ao6 t261.length co6) t261) ∧ Aside0 (Below w.heap.size w w'))
 case atStart => exact ⟨(y258), (0), zq4, H', ⟨Nat.le_refl _⟩, ⟨by (with_reducible repeat (first | apply zR | apply zV | apply zW)); exact HO260.out⟩, ⟨by (with_reducible repeat (first | apply zR | apply zV | apply zW)); exact HO263.out⟩, ⟨by repeat (first | (with_reducible first | exact HB.out | apply zA | apply zN | apply zD) | exact HB.out)⟩⟩
 case round =>
  clear H'
  try clear c1
  try clear p2
  obtain ⟨x4_1, x12_1, rfl, HA, HK1, HO_4, HO_10, HB⟩ := hrel
  cases gk with
  | zero => exact absurd HA.out (by simp [impl_decodeTree.l0])
  | succ k1 =>
   have H := HA.out
   clear HA
   simp only [impl_decodeTree.l0] at H
   by_cases c7 : x12_1 < (t261.length : Int)
   ·
    rw [if_pos c7] at H
    have c7b0 : decide (x12_1 < (t261.length : Int)) = true := decide_eq_true c7
    clear c7
    by_cases c8 : 0 ≤ x12_1
    ·
     rw [if_pos c8] at H
     have c8b0 : decide (0 ≤ x12_1) = true := decide_eq_true c8
     clear c8
     by_cases c9 : x12_1 < (t261.length : Int)
     ·
      rw [if_pos c9] at H
      have c9b0 : decide (x12_1 < (t261.length : Int)) = true := decide_eq_true c9
      clear c9
      replace H := Option.bind_eq_some_iff.mp H
      obtain ⟨t267, A100, H⟩ := H
      replace H : ((strings_Split.f t267 (⟨#[32]⟩ : ByteArray)).bind fun t268 => (if (t268.length : Int) = 3 then (if 0 < (t268.length : Int) then ((impl_modeOf.f k1 (rdOf ByteArray.empty t268 0)).bind fun t272 => (if t272 = 0 then (some (([] : List (S118)), false)) else (if 2 < (t268.length : Int) then ((impl_modeOf.f k1 (rdOf ByteArray.empty t268 0)).bind fun t275 => (if 1 < (t268.length : Int) then (if x4_1.length < 3518437208883 then (impl_decodeTree.l0 k1 a0 (x4_1 ++ [(⟨rdOf ByteArray.empty t268 2, t275, rdOf ByteArray.empty t268 1⟩ : S118)]) t261 (t261.length : Int) (wrap64 (x12_1 + 1))) else (none)) else (none))) else (none)))) else (none)) else (some (([] : List (S118)), false)))) = some (r1, r2) := H
      have A10 := zK A100
      clear A100
      replace H := Option.bind_eq_some_iff.mp H
      obtain ⟨t268, A110, H⟩ := H
      replace H : (if (t268.length : Int) = 3 then (if 0 < (t268.length : Int) then ((impl_modeOf.f k1 (rdOf ByteArray.empty t268 0)).bind fun t272 => (if t272 = 0 then (some (([] : List (S118)), false)) else (if 2 < (t268.length : Int) then ((impl_modeOf.f k1 (rdOf ByteArray.empty t268 0)).bind fun t275 => (if 1 < (t268.length : Int) then (if x4_1.length < 3518437208883 then (impl_decodeTree.l0 k1 a0 (x4_1 ++ [(⟨rdOf ByteArray.empty t268 2, t275, rdOf ByteArray.empty t268 1⟩ : S118)]) t261 (t261.length : Int) (wrap64 (x12_1 + 1))) else (none)) else (none))) else (none)))) else (none)) else (some (([] : List (S118)), false))) = some (r1, r2) := H
      have A11 := zK A110
      clear A110
      by_cases c12 : (t268.length : Int) = 3
      ·
       rw [if_pos c12] at H
       have c12b0 : ((t268.length : Int) == 3) = true := beq_iff_eq.mpr c12
       have c12b1 : ((t268.length : Int) != 3) = false := bne_eq_false_iff_eq.mpr c12
       clear c12
       by_cases c13 : 0 < (t268.length : Int)
       ·
        rw [if_pos c13] at H
        have c13b0 : decide (0 < (t268.length : Int)) = true := decide_eq_true c13
        have c13b1 : decide (0 < t268.length) = true := decide_eq_true zq7
        clear c13
        replace H := Option.bind_eq_some_iff.mp H
        obtain ⟨t272, A140, H⟩ := H
        replace H : (if t272 = 0 then (some (([] : List (S118)), false)) else (if 2 < (t268.length : Int) then ((impl_modeOf.f k1 (rdOf ByteArray.empty t268 0)).bind fun t275 => (if 1 < (t268.length : Int) then (if x4_1.length < 3518437208883 then (impl_decodeTree.l0 k1 a0 (x4_1 ++ [(⟨rdOf ByteArray.empty t268 2, t275, rdOf ByteArray.empty t268 1⟩ : S118)]) t261 (t261.length : Int) (wrap64 (x12_1 + 1))) else (none)) else (none))) else (none))) = some (r1, r2) := H
        have A14 := zK A140
        clear A140
        by_cases c15 : t272 = 0
        ·
         rw [if_pos c15] at H
         have c15b0 : (t272 == 0) = true := beq_iff_eq.mpr c15
         have c15b1 : (t272 != 0) = false := bne_eq_false_iff_eq.mpr c15
         clear c15
         simp only [Option.some.injEq, Prod.mk.injEq] at H
         obtain ⟨rfl, rfl⟩ := H
         have p266 : 0 ≤ (x12_1 : Int) := zX zq2
         have q266 : x12_1 < (t261.length : Int) := zX zq2
         obtain ⟨ad266, e266, hx266_0⟩ := Kd.at_string (Kd.R_reads' HO_10.out).2.2 x12_1 p266 q266
         cases e266
         replace p266 := eq_true p266
         replace q266 := eq_true q266
         go_wp2_with (first | ((with_reducible refine gate_callee (f := 176) rfl ?_); refine goesL_ (some 17) rfl rfl Tryz.func176 zq3 rfl #[.string (rdOf ByteArray.empty t261 x12_1), .string (⟨#[10]⟩ : ByteArray)] rfl zq1 ?_; (with_reducible refine (strings_TrimSuffix.calls (rdOf ByteArray.empty t261 x12_1) (⟨#[10]⟩ : ByteArray) t267 _ A10.out).mono ?_); rintro e w' ⟨rfl, ⟨nd, rfl⟩⟩; refine ⟨_, rfl, ?_⟩) | ((with_reducible refine gate_callee (f := 137) rfl ?_); refine goesL_ (some 18) rfl rfl Tryz.func137 zq3 rfl #[.string t267, .string (⟨#[32]⟩ : ByteArray)] rfl zq1 ?_; (with_reducible refine (strings_Split.calls t267 (⟨#[32]⟩ : ByteArray) t268 _ A11.out).mono ?_); rintro e w16 ⟨v269, rfl, ho0, hb⟩; refine ⟨_, rfl, ?_⟩; have n0_ := zK (Kd.R_below zq10 hb); have n1_ := zK (Kd.R_elder' zq14 (Kd.R_base ho0) hb); have n2_ := zK (Kd.R_lower (Kd.R_new' ho0 (Kd.R_lt zq14)) (below_size zq0)); have n3_ := zK (below_step zq0 hb); clear HO_4; clear HO_10; clear HB; have HO_4 := n0_; have HO_10 := n1_; have HO270 := n2_; have HB := n3_; clear n0_ n1_ n2_ n3_; (try clear hb); (try clear hb2); (try clear hk); (try clear hi); (try clear ho0); obtain ⟨Ao17, co17, eo17⟩ := Kd.R_slice HO270.out; subst eo17; have p271 : 0 ≤ (0 : Int) := zq7; have q271 : 0 < (t268.length : Int) := zX zq2; obtain ⟨ad271, e271, hx271_0⟩ := Kd.at_string (Kd.R_reads' HO270.out).2.2 0 p271 q271; cases e271; have qi271 : (0 < t268.length) = True := eq_true zq7; (try rw [show ((0 : Int)).toNat = 0 from rfl] at hx271_0); (try rw [Addr.add_zero'] at hx271_0); replace p271 := eq_true p271; replace q271 := eq_true q271) | (go_at_call 177; (with_reducible refine (impl_modeOf.calls k1 (rdOf ByteArray.empty t268 0) t272 _ A14.out).mono ?_); rintro e w18 ⟨rfl, hb⟩; have n0_ := zK (Kd.R_below zq10 hb); have n1_ := zK (Kd.R_below zq14 hb); have n2_ := zK (Kd.R_below zq27 hb); have n3_ := zK (below_step zq0 hb); clear HO_4; clear HO_10; clear HO270; clear HB; have HO_4 := n0_; have HO_10 := n1_; have HO270 := n2_; have HB := n3_; clear n0_ n1_ n2_ n3_; (try clear hb); (try clear hb2); (try clear hk); (try clear hi)))
         go_ret2
         exact ⟨_, zq5, zq20, zq0⟩
        rw [if_neg c15] at H
        have c15b0 : (t272 == 0) = false := beq_eq_false_iff_ne.mpr c15
        have c15b1 : (t272 != 0) = true := bne_iff_ne.mpr c15
        by_cases c19 : 2 < (t268.length : Int)
        ·
         rw [if_pos c19] at H
         have c19b0 : decide (2 < (t268.length : Int)) = true := decide_eq_true c19
         have c19b1 : decide (2 < t268.length) = true := decide_eq_true zq7
         clear c19
         replace H := Option.bind_eq_some_iff.mp H
         obtain ⟨t275, A200, H⟩ := H
         replace H : (if 1 < (t268.length : Int) then (if x4_1.length < 3518437208883 then (impl_decodeTree.l0 k1 a0 (x4_1 ++ [(⟨rdOf ByteArray.empty t268 2, t275, rdOf ByteArray.empty t268 1⟩ : S118)]) t261 (t261.length : Int) (wrap64 (x12_1 + 1))) else (none)) else (none)) = some (r1, r2) := H
         have A20 := zK A200
         clear A200
         by_cases c21 : 1 < (t268.length : Int)
         ·
          rw [if_pos c21] at H
          have c21b0 : decide (1 < (t268.length : Int)) = true := decide_eq_true c21
          have c21b1 : decide (1 < t268.length) = true := decide_eq_true zq7
          clear c21
          by_cases c22 : x4_1.length < 3518437208883
          ·
           rw [if_pos c22] at H
           have LMc22 := zK c22
           clear c22
           obtain ⟨y277, hy277⟩ : ∃ y_ : List (S118), y_ = (x4_1 ++ [(⟨rdOf ByteArray.empty t268 2, t275, rdOf ByteArray.empty t268 1⟩ : S118)]) := ⟨_, rfl⟩
           replace H : (impl_decodeTree.l0 k1 a0 y277 t261 (t261.length : Int) (wrap64 (x12_1 + 1))) = some (r1, r2) := by first | (rw [hy277]; with_reducible exact H) | (have H2_ := (Option.bind_some _ _).symm.trans H; rw [hy277]; with_reducible exact H2_) | (have H2_ := (Option.bind_some _ _).symm.trans H; with_reducible exact H2_) | with_reducible exact H | (rw [hy277]; exact H) | exact H
           have Ny277 := zK hy277
           clear hy277
           have H' := zK H
           clear H
           have p266 : 0 ≤ (x12_1 : Int) := zX zq2
           have q266 : x12_1 < (t261.length : Int) := zX zq2
           obtain ⟨ad266, e266, hx266_0⟩ := Kd.at_string (Kd.R_reads' HO_10.out).2.2 x12_1 p266 q266
           cases e266
           replace p266 := eq_true p266
           replace q266 := eq_true q266
           try go_wp2_with (first | ((with_reducible refine gate_callee (f := 176) rfl ?_); refine goesL_ (some 17) rfl rfl Tryz.func176 zq3 rfl #[.string (rdOf ByteArray.empty t261 x12_1), .string (⟨#[10]⟩ : ByteArray)] rfl zq1 ?_; (with_reducible refine (strings_TrimSuffix.calls (rdOf ByteArray.empty t261 x12_1) (⟨#[10]⟩ : ByteArray) t267 _ A10.out).mono ?_); rintro e w' ⟨rfl, ⟨nd, rfl⟩⟩; refine ⟨_, rfl, ?_⟩) | ((with_reducible refine gate_callee (f := 137) rfl ?_); refine goesL_ (some 18) rfl rfl Tryz.func137 zq3 rfl #[.string t267, .string (⟨#[32]⟩ : ByteArray)] rfl zq1 ?_; (with_reducible refine (strings_Split.calls t267 (⟨#[32]⟩ : ByteArray) t268 _ A11.out).mono ?_); rintro e w23 ⟨v269, rfl, ho0, hb⟩; refine ⟨_, rfl, ?_⟩; have n0_ := zK (Kd.R_below zq10 hb); have n1_ := zK (Kd.R_elder' zq14 (Kd.R_base ho0) hb); have n2_ := zK (Kd.R_lower (Kd.R_new' ho0 (Kd.R_lt zq14)) (below_size zq0)); have n3_ := zK (below_step zq0 hb); clear HO_4; clear HO_10; clear HB; have HO_4 := n0_; have HO_10 := n1_; have HO270 := n2_; have HB := n3_; clear n0_ n1_ n2_ n3_; (try clear hb); (try clear hb2); (try clear hk); (try clear hi); (try clear ho0); obtain ⟨Ao24, co24, eo24⟩ := Kd.R_slice HO270.out; subst eo24; have p271 : 0 ≤ (0 : Int) := zq7; have q271 : 0 < (t268.length : Int) := zX zq2; obtain ⟨ad271, e271, hx271_0⟩ := Kd.at_string (Kd.R_reads' HO270.out).2.2 0 p271 q271; cases e271; have qi271 : (0 < t268.length) = True := eq_true zq7; (try rw [show ((0 : Int)).toNat = 0 from rfl] at hx271_0); (try rw [Addr.add_zero'] at hx271_0); replace p271 := eq_true p271; replace q271 := eq_true q271) | (go_at_call 177; (with_reducible refine (impl_modeOf.calls k1 (rdOf ByteArray.empty t268 0) t272 _ A14.out).mono ?_); rintro e w25 ⟨rfl, hb⟩; have n0_ := zK (Kd.R_below zq10 hb); have n1_ := zK (Kd.R_below zq14 hb); have n2_ := zK (Kd.R_below zq27 hb); have n3_ := zK (below_step zq0 hb); clear HO_4; clear HO_10; clear HO270; clear HB; have HO_4 := n0_; have HO_10 := n1_; have HO270 := n2_; have HB := n3_; clear n0_ n1_ n2_ n3_; (try clear hb); (try clear hb2); (try clear hk); (try clear hi)))
           have n0_ := zK (zW HO_4.out)
           have n1_ := zK (zW HO_10.out)
           have n2_ := zK (zW HO270.out)
           have n3_ := zK (zD HB.out)
           clear HO_4
           clear HO_10
           clear HO270
           clear HB
           have HO_4 := n0_
           have HO_10 := n1_
           have HO270 := n2_
           have HB := n3_
           clear n0_ n1_ n2_ n3_
           have p273 : 0 ≤ (2 : Int) := zq7
           have q273 : 2 < (t268.length : Int) := zX zq2
           obtain ⟨ad273, e273, hx273_0⟩ := Kd.at_string (Kd.R_reads' HO270.out).2.2 2 p273 q273
           obtain rfl : ad271 = ad273 := (by injection e273)
           (try simp only [show (2 : Int).toNat = 2 from rfl, Nat.reduceMul, Nat.reduceEqDiff, Go.Addr.add, ↓reduceIte] at hx273_0)
           have qi273 : (2 < t268.length) = True := eq_true zq7
           (try rw [show ((2 : Int)).toNat = 2 from rfl] at hx273_0)
           replace p273 := eq_true p273
           replace q273 := eq_true q273
           have p274 : 0 ≤ (0 : Int) := zq7
           have q274 : 0 < (t268.length : Int) := zX zq2
           obtain ⟨ad274, e274, hx274_0⟩ := Kd.at_string (Kd.R_reads' HO270.out).2.2 0 p274 q274
           obtain rfl : ad271 = ad274 := (by injection e274)
           have qi274 : (0 < t268.length) = True := eq_true zq7
           (try rw [show ((0 : Int)).toNat = 0 from rfl] at hx274_0)
           (try rw [Addr.add_zero'] at hx274_0)
           replace p274 := eq_true p274
           replace q274 := eq_true q274
           have p276 : 0 ≤ (1 : Int) := zq7
           have q276 : 1 < (t268.length : Int) := zX zq2
           obtain ⟨ad276, e276, hx276_0⟩ := Kd.at_string (Kd.R_reads' HO270.out).2.2 1 p276 q276
           obtain rfl : ad271 = ad276 := (by injection e276)
           (try simp only [show (1 : Int).toNat = 1 from rfl, Nat.reduceMul, Nat.reduceEqDiff, Go.Addr.add, ↓reduceIte] at hx276_0)
           have qi276 : (1 < t268.length) = True := eq_true zq7
           (try rw [show ((1 : Int)).toNat = 1 from rfl] at hx276_0)
           replace p276 := eq_true p276
           replace q276 := eq_true q276
           refine start_ (n := 15) (S := fun w' => w'.cell? ⟨ad271.block, ad271.off + 2, none⟩ = some (.string (rdOf ByteArray.empty t268 2)) ∧ w'.cell? ad271 = some (.string (rdOf ByteArray.empty t268 0)) ∧ w'.cell? ⟨ad271.block, ad271.off + 1, none⟩ = some (.string (rdOf ByteArray.empty t268 1))) (ds := [12, 13]) #[zF,zF,zF,zF,zF,zF,zF,zF,zF,zF,zF,zF,zF,zF,zF] zq3 rfl rfl ⟨hx273_0, hx274_0, hx276_0⟩ (fun hHeld => ?_); refine with_tabW impl_decodeTree.tab8 impl_decodeTree.bits8 (fun HT_ HW_ => ?_)
           generalize w25.drew = w26 at HO_4 HO_10 HO270 HB hx273_0 hx274_0 hx276_0 hHeld ⊢
           refine pure_ (i := 0) (N := some 29) (v := ?_) (a' := ?_) #[zB,zF,zF,zF,zF,zF,zF,zF,zF,zF,zF,zF,zF,zF,zF] rfl rfl (any_of HT_.out zq3) (fun _ _ _ h => h) (Or.inl ⟨by rfl, ?_⟩) ?_ ?_
           rotate_left
           ·
            intro w'
            go_simp
            with_reducible rfl
           rotate_left
           ·
            simp only [Act.put, zS, zT, zU, i64_w, i32_w]
            rfl
           refine pure_ (i := 1) (N := some 30) (v := ?_) (a' := ?_) #[zB,zB,zF,zF,zF,zF,zF,zF,zF,zF,zF,zF,zF,zF,zF] rfl rfl (any_of HT_.out zq3) (fun _ _ _ h => h) (Or.inl ⟨by rfl, ?_⟩) ?_ ?_
           rotate_left
           ·
            intro w'
            go_simp
            with_reducible rfl
           rotate_left
           ·
            simp only [Act.put, zS, zT, zU, i64_w, i32_w]
            rfl
           refine pure_ (i := 2) (N := some 31) (v := ?_) (a' := ?_) #[zB,zB,zB,zF,zF,zF,zF,zF,zF,zF,zF,zF,zF,zF,zF] rfl rfl (any_of HT_.out zq3) (fun _ _ _ h => h) (Or.inl ⟨by rfl, ?_⟩) ?_ ?_
           rotate_left
           ·
            intro w'
            go_simp
            with_reducible rfl
           rotate_left
           ·
            simp only [Act.put, zS, zT, zU, i64_w, i32_w]
            rfl
           refine pure_ (i := 4) (N := some 33) (v := ?_) (a' := ?_) #[zB,zB,zB,zF,zB,zF,zF,zF,zF,zF,zF,zF,zF,zF,zF] rfl rfl (any_of HT_.out zq3) (fun _ _ _ h => h) (Or.inl ⟨by rfl, ?_⟩) ?_ ?_
           rotate_left
           ·
            intro w'
            go_simp
            with_reducible rfl
           rotate_left
           ·
            simp only [Act.put, zS, zT, zU, i64_w, i32_w]
            rfl
           refine pure_ (i := 5) (N := some 34) (v := ?_) (a' := ?_) #[zB,zB,zB,zF,zB,zB,zF,zF,zF,zF,zF,zF,zF,zF,zF] rfl rfl (any_of HT_.out zq3) (fun _ _ _ h => h) (Or.inl ⟨by rfl, ?_⟩) ?_ ?_
           rotate_left
           ·
            intro w'
            go_simp
            with_reducible rfl
           rotate_left
           ·
            simp only [Act.put, zS, zT, zU, i64_w, i32_w]
            rfl
           refine pure_ (i := 8) (N := some 37) (v := ?_) (a' := ?_) #[zB,zB,zB,zF,zB,zB,zF,zF,zB,zF,zF,zF,zF,zF,zF] rfl rfl (any_of HT_.out zq3) (fun _ _ _ h => h) (Or.inl ⟨by rfl, ?_⟩) ?_ ?_
           rotate_left
           ·
            intro w'
            go_simp
            with_reducible rfl
           rotate_left
           ·
            simp only [Act.put, zS, zT, zU, i64_w, i32_w]
            rfl
           refine pure_ (i := 9) (N := some 38) (v := ?_) (a' := ?_) #[zB,zB,zB,zF,zB,zB,zF,zF,zB,zB,zF,zF,zF,zF,zF] rfl rfl (any_of HT_.out zq3) (fun _ _ _ h => h) (Or.inl ⟨by rfl, ?_⟩) ?_ ?_
           rotate_left
           ·
            intro w'
            go_simp
            with_reducible rfl
           rotate_left
           ·
            simp only [Act.put, zS, zT, zU, i64_w, i32_w]
            rfl
           refine take_ (i := 3) (N := some 32) (v := ?_) (a' := ?_) #[zB,zB,zB,zB,zB,zB,zF,zF,zB,zB,zF,zF,zF,zF,zF] rfl rfl (take_ofW HT_.out HW_.out zq3) (fun _ _ _ h => h) (Or.inl ⟨by rfl, ?_⟩) hHeld ?_ ?_
           rotate_left
           ·
            rintro w' ⟨s0, s1, s2⟩
            go_simp
            with_reducible rfl
           rotate_left
           ·
            simp only [Act.put, zS, zT, zU, i64_w, i32_w]
            rfl
           refine take_ (i := 6) (N := some 35) (v := ?_) (a' := ?_) #[zB,zB,zB,zB,zB,zB,zB,zF,zB,zB,zF,zF,zF,zF,zF] rfl rfl (take_ofW HT_.out HW_.out zq3) (fun _ _ _ h => h) (Or.inl ⟨by rfl, ?_⟩) hHeld ?_ ?_
           rotate_left
           ·
            rintro w' ⟨s0, s1, s2⟩
            go_simp
            with_reducible rfl
           rotate_left
           ·
            simp only [Act.put, zS, zT, zU, i64_w, i32_w]
            rfl
           refine take_ (i := 10) (N := some 39) (v := ?_) (a' := ?_) #[zB,zB,zB,zB,zB,zB,zB,zF,zB,zB,zB,zF,zF,zF,zF] rfl rfl (take_ofW HT_.out HW_.out zq3) (fun _ _ _ h => h) (Or.inl ⟨by rfl, ?_⟩) hHeld ?_ ?_
           rotate_left
           ·
            rintro w' ⟨s0, s1, s2⟩
            go_simp
            with_reducible rfl
           rotate_left
           ·
            simp only [Act.put, zS, zT, zU, i64_w, i32_w]
            rfl
           refine one_ (i := 7) (N := some 36) #[zB,zB,zB,zB,zB,zB,zB,zB,zB,zB,zB,zF,zF,zF,zF] rfl rfl (one_of HT_.out zq3) zq13 (fun K hK => ?_)
           refine goes_ Tryz.func177 zq3 rfl #[.string (rdOf ByteArray.empty t268 0)] zq28 rfl rfl zq1 ?_
           with_reducible refine (impl_modeOf.calls k1 (rdOf ByteArray.empty t268 0) t275 _ A20.out).mono ?_
           rintro e w27 ⟨rfl, hb⟩
           have HS0_ := (hb.cell (zL _ _ (hHeld.1))).trans (hHeld.1)
           have HS1_ := (hb.cell (zL _ _ (hHeld.2.1))).trans (hHeld.2.1)
           have HS2_ := (hb.cell (zL _ _ (hHeld.2.2))).trans (hHeld.2.2)
           refine ⟨_, rfl, ?_⟩
           have n0_ := zK (Kd.R_below zq10 hb)
           have n1_ := zK (Kd.R_below zq14 hb)
           have n2_ := zK (Kd.R_below zq27 hb)
           have n3_ := zK (below_step zq0 hb)
           clear HO_4
           clear HO_10
           clear HO270
           clear HB
           have HO_4 := n0_
           have HO_10 := n1_
           have HO270 := n2_
           have HB := n3_
           clear n0_ n1_ n2_ n3_
           (try clear hb)
           (try clear hb2)
           (try clear hk)
           (try clear hi)
           refine hK.out _ _ ⟨HS0_, HS1_, HS2_⟩ (fun hHeld => ?_)
           clear hK K
           refine norm_ (a' := ?_) ?_ ?_
           rotate_left
           ·
            show Act.put _ (some 36) _ = _
            simp only [Act.put, zS, zT, zU, i64_w, i32_w]
            rfl
           refine pure_ (i := 11) (N := some 40) (v := ?_) (a' := ?_) #[zB,zB,zB,zB,zB,zB,zB,zB,zB,zB,zB,zB,zF,zF,zF] rfl rfl (any_of HT_.out zq3) (fun _ _ _ h => h) (Or.inl ⟨by rfl, ?_⟩) ?_ ?_
           rotate_left
           ·
            intro w'
            go_simp
            with_reducible rfl
           rotate_left
           ·
            simp only [Act.put, zS, zT, zU, i64_w, i32_w]
            rfl
           refine last_ (i := 12) (N := some 41) #[zB,zB,zB,zB,zB,zB,zB,zB,zB,zB,zB,zB,zB,zF,zF] rfl rfl (one_of HT_.out zq3) zq13 (fun K hK => ?_)
           refine value_ (w1 := ?_) (v := ?_) zq28 rfl ?_ ?_
           rotate_left 2
           ·
            go_simp
            constructor
            ·
             rfl
            rfl
           refine hK.out _ _ ?_
           clear hK K
           refine norm_ (a' := ?_) ?_ ?_
           rotate_left
           ·
            show Act.put _ (some 41) _ = _
            simp only [Act.put, zS, zT, zU, i64_w, i32_w]
            rfl
           refine last_ (i := 13) (N := some 42) #[zB,zB,zB,zB,zB,zB,zB,zB,zB,zB,zB,zB,zB,zB,zF] rfl rfl (one_of HT_.out zq3) zq13 (fun K hK => ?_)
           refine Kd.R_append_step k118 (w0 := w) w.heap.size zq28 (.tmp 29) (.tmp 41) 113 118 (.agg #[(.string ⟨#[]⟩), (.int .i64 0), (.string ⟨#[]⟩)]) 40 rfl Tryz.underlying113 info118 rfl zq13 zq7 u4 x4_1 (⟨rdOf ByteArray.empty t268 2, t275, rdOf ByteArray.empty t268 1⟩ : S118) [.string (rdOf ByteArray.empty t268 2), .int .i64 t275, .string (rdOf ByteArray.empty t268 1)] (fun _ => True) (fun _ => False) rfl rfl ?aP (fun _ hk => hk.elim) ?aF ?aO ?aB ?aS ?aL ?_
           (case aP => exact k118_mkM _ _ _ (⟨rdOf ByteArray.empty t268 2, t275, rdOf ByteArray.empty t268 1⟩ : S118))
           (case aB => exact zq0)
           (case aF => exact (fun _ _ => trivial))
           (case aO => exact zq10)
           (case aS => exact (below_size zq0))
           (case aL => have := LMc22.out; omega)
           intro v278 w28 ho hb hg hat
           rw [← Ny277.out] at ho
           have n0_ := zK (Kd.R_over' zq14 (Kd.R_typed zq10) zq13 hg)
           have n1_ := zK (Kd.R_over' zq27 (Kd.R_typed zq10) zq13 hg)
           have n2_ := zK (hb)
           have n3_ := zK (ho)
           clear HO_10
           clear HO270
           clear HB
           clear HO_4
           have HO_10 := n0_
           have HO270 := n1_
           have HB := n2_
           have HO279 := n3_
           clear n0_ n1_ n2_ n3_
           clear ho hb hg hat
           refine hK.out _ _ ?_
           clear hK K
           refine norm_ (a' := ?_) ?_ ?_
           rotate_left
           ·
            show Act.put _ (some 42) _ = _
            simp only [Act.put, zS, zT, zU, i64_w, i32_w]
            rfl
           refine pure_ (i := 14) (N := some 4) (v := ?_) (a' := ?_) #[zB,zB,zB,zB,zB,zB,zB,zB,zB,zB,zB,zB,zB,zB,zB] rfl rfl (any_of HT_.out zq3) (fun _ _ _ h => h) (Or.inl ⟨by rfl, ?_⟩) ?_ ?_
           rotate_left
           ·
            intro w'
            go_simp
            with_reducible rfl
           rotate_left
           ·
            simp only [Act.put, zS, zT, zU, i64_w, i32_w]
            rfl
           refine done_ (done_of HT_.out zq3) ?_
           try go_wp2
           go_roundg k1
           case measure => have := HK1.out; omega
           case rel => exact ⟨(y277), (wrap64 (x12_1 + 1)), zq4, H', ⟨by have := HK1.out; omega⟩, ⟨by (with_reducible repeat (first | apply zR | apply zV | apply zW)); exact HO279.out⟩, ⟨by (with_reducible repeat (first | apply zR | apply zV | apply zW)); exact Kd.R_mono HO_10.out (fun _ hk => trivial)⟩, ⟨by repeat (first | (with_reducible first | exact HB.out | apply zA | apply zN | apply zD) | exact HB.out)⟩⟩
          rw [if_neg c22] at H
          exact absurd H zq16
         rw [if_neg c21] at H
         exact absurd H zq16
        rw [if_neg c19] at H
        exact absurd H zq16
       rw [if_neg c13] at H
       exact absurd H zq16
      rw [if_neg c12] at H
      have c12b0 : ((t268.length : Int) == 3) = false := beq_eq_false_iff_ne.mpr c12
      have c12b1 : ((t268.length : Int) != 3) = true := bne_iff_ne.mpr c12
      simp only [Option.some.injEq, Prod.mk.injEq] at H
      obtain ⟨rfl, rfl⟩ := H
      have p266 : 0 ≤ (x12_1 : Int) := zX zq2
      have q266 : x12_1 < (t261.length : Int) := zX zq2
      obtain ⟨ad266, e266, hx266_0⟩ := Kd.at_string (Kd.R_reads' HO_10.out).2.2 x12_1 p266 q266
      cases e266
      replace p266 := eq_true p266
      replace q266 := eq_true q266
      go_wp2_with (first | ((with_reducible refine gate_callee (f := 176) rfl ?_); refine goesL_ (some 17) rfl rfl Tryz.func176 zq3 rfl #[.string (rdOf ByteArray.empty t261 x12_1), .string (⟨#[10]⟩ : ByteArray)] rfl zq1 ?_; (with_reducible refine (strings_TrimSuffix.calls (rdOf ByteArray.empty t261 x12_1) (⟨#[10]⟩ : ByteArray) t267 _ A10.out).mono ?_); rintro e w' ⟨rfl, ⟨nd, rfl⟩⟩; refine ⟨_, rfl, ?_⟩) | ((with_reducible refine gate_callee (f := 137) rfl ?_); refine goesL_ (some 18) rfl rfl Tryz.func137 zq3 rfl #[.string t267, .string (⟨#[32]⟩ : ByteArray)] rfl zq1 ?_; (with_reducible refine (strings_Split.calls t267 (⟨#[32]⟩ : ByteArray) t268 _ A11.out).mono ?_); rintro e w29 ⟨v269, rfl, ho0, hb⟩; refine ⟨_, rfl, ?_⟩; have n0_ := zK (Kd.R_below zq10 hb); have n1_ := zK (Kd.R_elder' zq14 (Kd.R_base ho0) hb); have n2_ := zK (Kd.R_lower (Kd.R_new' ho0 (Kd.R_lt zq14)) (below_size zq0)); have n3_ := zK (below_step zq0 hb); clear HO_4; clear HO_10; clear HB; have HO_4 := n0_; have HO_10 := n1_; have HO270 := n2_; have HB := n3_; clear n0_ n1_ n2_ n3_; (try clear hb); (try clear hb2); (try clear hk); (try clear hi); (try clear ho0); obtain ⟨Ao30, co30, eo30⟩ := Kd.R_slice HO270.out; subst eo30))
      go_ret2
      exact ⟨_, zq5, zq20, zq0⟩
     rw [if_neg c9] at H
     exact absurd H zq16
    rw [if_neg c8] at H
    exact absurd H zq16
   rw [if_neg c7] at H
   have c7b0 : decide (x12_1 < (t261.length : Int)) = false := decide_eq_false c7
   clear c7
   replace H := Option.bind_eq_some_iff.mp H
   obtain ⟨t264, A310, H⟩ := H
   replace H : (if t264 = 0 then ((impl_treeText.f x4_1).bind fun t265 => (some (x4_1, (t265.toList == a0.toList)))) else (some (x4_1, false))) = some (r1, r2) := H
   have A31 := zK A310
   clear A310
   by_cases c32 : t264 = 0
   ·
    rw [if_pos c32] at H
    have c32b0 : (t264 == 0) = true := beq_iff_eq.mpr c32
    have c32b1 : (t264 != 0) = false := bne_eq_false_iff_eq.mpr c32
    clear c32
    replace H := Option.bind_eq_some_iff.mp H
    obtain ⟨t265, A330, H⟩ := H
    replace H : (some (x4_1, (t265.toList == a0.toList))) = some (r1, r2) := H
    have A33 := zK A330
    clear A330
    simp only [Option.some.injEq, Prod.mk.injEq] at H
    obtain ⟨rfl, rfl⟩ := H
    obtain ⟨Ao34, co34, eo34⟩ := Kd.R_slice HO_4.out
    subst eo34
    go_wp2_with (first | ((with_reducible refine gate_callee (f := 178) rfl ?_); refine goesL_ (some 46) rfl rfl Tryz.func178 zq3 rfl #[.slice Ao34 x4_1.length co34] rfl zq1 ?_; (with_reducible refine (impl_TreeFault.calls k1 _ _ x4_1 t264 _ ?side1 ?side2 A31.out).mono ?_); (case side1 => repeat (first | exact (Kd.R_reads' HO_4.out).2.2 | (with_reducible refine Kd.C_alloc ?_ _) | (with_reducible refine Kd.C_drewN ?_ _) | (with_reducible refine Kd.C_drew ?_))); (case side2 => exact (Kd.R_reads' HO_4.out).2.1); rintro e w35 ⟨rfl, hb⟩; refine ⟨_, rfl, ?_⟩; have n0_ := zK (Kd.R_below zq10 hb); have n1_ := zK (Kd.R_below zq14 hb); have n2_ := zK (below_step zq0 hb); clear HO_4; clear HO_10; clear HB; have HO_4 := n0_; have HO_10 := n1_; have HB := n2_; clear n0_ n1_ n2_; (try clear hb); (try clear hb2); (try clear hk); (try clear hi)) | (go_at_call 97; (with_reducible refine (impl_treeText.calls _ _ x4_1 t265 _ ?side1 ?side2 A33.out).mono ?_); (case side1 => repeat (first | exact (Kd.R_reads' HO_4.out).2.2 | (with_reducible refine Kd.C_alloc ?_ _) | (with_reducible refine Kd.C_drewN ?_ _) | (with_reducible refine Kd.C_drew ?_))); (case side2 => exact (Kd.R_reads' HO_4.out).2.1); rintro e w36 ⟨rfl, hb⟩; have n0_ := zK (Kd.R_below zq10 hb); have n1_ := zK (Kd.R_below zq14 hb); have n2_ := zK (below_step zq0 hb); clear HO_4; clear HO_10; clear HB; have HO_4 := n0_; have HO_10 := n1_; have HB := n2_; clear n0_ n1_ n2_; (try clear hb); (try clear hb2); (try clear hk); (try clear hi)))
    go_ret2
    exact ⟨_, zq5, zq10, zq0⟩
   rw [if_neg c32] at H
   have c32b0 : (t264 == 0) = false := beq_eq_false_iff_ne.mpr c32
   have c32b1 : (t264 != 0) = true := bne_iff_ne.mpr c32
   simp only [Option.some.injEq, Prod.mk.injEq] at H
   obtain ⟨rfl, rfl⟩ := H
   obtain ⟨Ao37, co37, eo37⟩ := Kd.R_slice HO_4.out
   subst eo37
   go_wp2_with (first | ((with_reducible refine gate_callee (f := 178) rfl ?_); refine goesL_ (some 46) rfl rfl Tryz.func178 zq3 rfl #[.slice Ao37 x4_1.length co37] rfl zq1 ?_; (with_reducible refine (impl_TreeFault.calls k1 _ _ x4_1 t264 _ ?side1 ?side2 A31.out).mono ?_); (case side1 => repeat (first | exact (Kd.R_reads' HO_4.out).2.2 | (with_reducible refine Kd.C_alloc ?_ _) | (with_reducible refine Kd.C_drewN ?_ _) | (with_reducible refine Kd.C_drew ?_))); (case side2 => exact (Kd.R_reads' HO_4.out).2.1); rintro e w38 ⟨rfl, hb⟩; refine ⟨_, rfl, ?_⟩; have n0_ := zK (Kd.R_below zq10 hb); have n1_ := zK (Kd.R_below zq14 hb); have n2_ := zK (below_step zq0 hb); clear HO_4; clear HO_10; clear HB; have HO_4 := n0_; have HO_10 := n1_; have HB := n2_; clear n0_ n1_ n2_; (try clear hb); (try clear hb2); (try clear hk); (try clear hi)))
   go_ret2
   exact ⟨_, zq5, zq10, zq0⟩
end Go.Proofs.YtkjgnnhpjcofiaaGreatDoor.PX
