/- Texts of this claim set one behind another by wip/bundle.py: PXf35, PXf119, PXf48. -/
import Derived.Test.YtcapmfgamdiijaaDoorBDecodeTree1
import Derived.Test.YtcapmfgamdiijaaDoorBDecodeTree9
import Derived.Test.YtcapmfgamdiijaaDoorBDecodeTree2
namespace Go.Proofs.YtcapmfgamdiijaaDoor.PX
open Go.RowKit Go.Proofs.YtcapmfgamdiijaaDoorW.PrintWords Go.Proofs.YtcapmfgamdiijaaDoorW.PrintLast Go.Proofs.YtcapmfgamdiijaaDoorW.PrintMore
attribute [local go_sem] max2_int min2_int max_two min_two max_three min_three max_four min_four   -- for this text's walks alone
set_option linter.unusedVariables false
set_option linter.unusedSimpArgs false

/-! ### spec_TreeFault: function 35 -/
def spec_TreeFault.l0 : Nat → List (S132) → Int → Option (Int)
 | 0, _, _ => none
 | k + 1, x0, x3 => if x3 < (x0.length : Int) then (if 0 ≤ x3 then ((spec_NameFault.f k ((rd_T132 x0 x3).f0)).bind fun t341 => (if t341 = 0 then ((spec_l1In.f ((rd_T132 x0 x3).f1) 1 3).bind fun t342 => (if t342 = true then (if ((rd_T132 x0 x3).f1) = 3 then ((spec_l6Is.f k ((rd_T132 x0 x3).f2) 2).bind fun t343 => (if t343 = true then (if x3 > 0 then (if 0 ≤ (wrap64 (x3 - 1)) then (if (wrap64 (x3 - 1)) < (x0.length : Int) then (if ((Op.bytesLess (((rd_T132 x0 (wrap64 (x3 - 1))).f0).toList) (((rd_T132 x0 x3).f0).toList)) = true) then (spec_TreeFault.l0 k x0 (wrap64 (x3 + 1))) else (some 1)) else (none)) else (none)) else (spec_TreeFault.l0 k x0 (wrap64 (x3 + 1)))) else (some 1))) else ((spec_l6Is.f k ((rd_T132 x0 x3).f2) 1).bind fun t345 => (if t345 = true then (if x3 > 0 then (if 0 ≤ (wrap64 (x3 - 1)) then (if (wrap64 (x3 - 1)) < (x0.length : Int) then (if ((Op.bytesLess (((rd_T132 x0 (wrap64 (x3 - 1))).f0).toList) (((rd_T132 x0 x3).f0).toList)) = true) then (spec_TreeFault.l0 k x0 (wrap64 (x3 + 1))) else (some 1)) else (none)) else (none)) else (spec_TreeFault.l0 k x0 (wrap64 (x3 + 1)))) else (some 1)))) else (some 3))) else (some t341))) else (none)) else ((spec_l6Tree.f k x0).bind fun t337 => ((spec_TextFault.f k t337).bind fun t338 => (some t338)))
def spec_TreeFault.f (k : Nat) (l0 : List (S132)) : Option (Int) := if (l0.length : Int) > 100 then (some 2) else (spec_TreeFault.l0 k l0 0)
theorem spec_TreeFault.mono_l : ∀ k, (∀ y0 y1, LeO (spec_TreeFault.l0 k y0 y1) (spec_TreeFault.l0 (k + 1) y0 y1))
 | 0 => fun _ _ r h => by simp [spec_TreeFault.l0] at h
 | k + 1 => by
  have ih0 := spec_TreeFault.mono_l k
  ·
   intro y0 y1
   unfold spec_TreeFault.l0
   repeat' first
   | (with_reducible exact ih0 _ _)
   | (with_reducible exact spec_NameFault.mono _ _)
   | (with_reducible exact spec_TextFault.mono _ _)
   | (with_reducible exact spec_l6Is.mono _ _ _)
   | (with_reducible exact spec_l6Tree.mono _ _)
   | (with_reducible exact LeO.refl _)
   | (with_reducible exact LeO.none _)
   | (with_reducible refine LeO.ite ?_ ?_)
   | (with_reducible refine LeO.bind ?_ (fun _ => ?_))
   | exact ih0 _ _
   | exact spec_NameFault.mono _ _
   | exact spec_TextFault.mono _ _
   | exact spec_l6Is.mono _ _ _
   | exact spec_l6Tree.mono _ _
   | exact LeO.none _
   | refine LeO.ite ?_ ?_
   | refine LeO.bind ?_ (fun _ => ?_)
theorem spec_TreeFault.mono : ∀ a0 k, LeO (spec_TreeFault.f k a0) (spec_TreeFault.f (k + 1) a0) := by
 intro a0 k
 have ih0 := spec_TreeFault.mono_l k
 unfold spec_TreeFault.f
 repeat' first
   | (with_reducible exact ih0 _ _)
   | (with_reducible exact spec_NameFault.mono _ _)
   | (with_reducible exact spec_TextFault.mono _ _)
   | (with_reducible exact spec_l6Is.mono _ _ _)
   | (with_reducible exact spec_l6Tree.mono _ _)
   | (with_reducible exact LeO.refl _)
   | (with_reducible exact LeO.none _)
   | (with_reducible refine LeO.ite ?_ ?_)
   | (with_reducible refine LeO.bind ?_ (fun _ => ?_))
   | exact ih0 _ _
   | exact spec_NameFault.mono _ _
   | exact spec_TextFault.mono _ _
   | exact spec_l6Is.mono _ _ _
   | exact spec_l6Tree.mono _ _
   | exact LeO.none _
   | refine LeO.ite ?_ ?_
   | refine LeO.bind ?_ (fun _ => ?_)
set_option maxHeartbeats 8000000 in
set_option maxRecDepth 100000 in
theorem spec_TreeFault.calls (k : Nat) (A0 : Option Addr) (c0 : Nat) (l0 : List (S132)) (r : Int) (w : World) (hr0 : Kd.C k132 w A0 l0.length l0) (hc0 : l0.length ≤ c0) (h : spec_TreeFault.f k l0 = some r) :
  Calls Tryd.prog 35 #[.slice A0 l0.length c0] w fun e w' => e = .returned (.int .i64 r) ∧ Below w.heap.size w w' := by
 have hu132 := Tryd.underlying132
 have HR0 := Aside0.mk hr0
 have HC0 := Aside0.mk hc0
 clear hr0 hc0
 have HB := Aside0.mk (Below.refl w.heap.size w)
 have H : (if (l0.length : Int) > 100 then (some 2) else (spec_TreeFault.l0 k l0 0)) = some r := h
 clear h
 by_cases c2 : (l0.length : Int) > 100
 ·
  rw [if_pos c2] at H
  have c2b0 : decide (100 < (l0.length : Int)) = true := decide_eq_true c2
  have c2b1 : decide (100 < l0.length) = true := decide_eq_true (by omega)
  clear c2
  obtain rfl := Option.some.inj H
  go_enter Tryd.func35, Tryd.ntmps35
  go_wp2
  repeat (go_quiet (fail); try go_wp2)
  go_ret
  exact ⟨by first | rfl | (simp [errW_none, errW_some] <;> rfl) | (simp [*, errW_none, errW_some] <;> rfl), by repeat (first | (with_reducible first | exact HB.out | apply below_alloc | apply pw_below_drewN | apply below_drew1) | exact HB.out)⟩
 ·
  rw [if_neg c2] at H
  have c2b0 : decide (100 < (l0.length : Int)) = false := decide_eq_false c2
  have c2b1 : decide (100 < l0.length) = false := decide_eq_false (by omega)
  clear c2
  have H' := Aside0.mk H
  clear H
  go_enter Tryd.func35, Tryd.ntmps35
  go_wp2
  repeat (go_quiet (fail); try go_wp2)
  go_loopg [3] k (fun kq v3 w' => ∃ (x3_1 : Int), v3 = .int .i64 x3_1 ∧ Aside0 (spec_TreeFault.l0 kq l0 x3_1 = some r) ∧ Aside0 (kq ≤ k) ∧ Aside0 (Below w.heap.size w w'))
  case atStart => exact ⟨(0), (by first | rfl | (simp; done) | (simp [*]; done)), H', ⟨Nat.le_refl _⟩, ⟨by repeat (first | (with_reducible first | exact HB.out | apply below_alloc | apply pw_below_drewN | apply below_drew1) | exact HB.out)⟩⟩
  case round =>
   clear H'
   try clear c2
   try clear c2b0
   try clear c2b1
   try clear p2
   obtain ⟨x3_1, rfl, HA, HK1, HB⟩ := hrel
   cases gk with
   | zero => exact absurd HA.out (by simp [spec_TreeFault.l0])
   | succ k1 =>
    have H := HA.out
    clear HA
    simp only [spec_TreeFault.l0] at H
    by_cases c3 : x3_1 < (l0.length : Int)
    ·
     rw [if_pos c3] at H
     have c3b0 : decide (x3_1 < (l0.length : Int)) = true := decide_eq_true c3
     clear c3
     by_cases c4 : 0 ≤ x3_1
     ·
      rw [if_pos c4] at H
      have c4b0 : decide (0 ≤ x3_1) = true := decide_eq_true c4
      clear c4
      replace H := Option.bind_eq_some_iff.mp H
      obtain ⟨t341, A50, H⟩ := H
      replace H : (if t341 = 0 then ((spec_l1In.f ((rd_T132 l0 x3_1).f1) 1 3).bind fun t342 => (if t342 = true then (if ((rd_T132 l0 x3_1).f1) = 3 then ((spec_l6Is.f k1 ((rd_T132 l0 x3_1).f2) 2).bind fun t343 => (if t343 = true then (if x3_1 > 0 then (if 0 ≤ (wrap64 (x3_1 - 1)) then (if (wrap64 (x3_1 - 1)) < (l0.length : Int) then (if ((Op.bytesLess (((rd_T132 l0 (wrap64 (x3_1 - 1))).f0).toList) (((rd_T132 l0 x3_1).f0).toList)) = true) then (spec_TreeFault.l0 k1 l0 (wrap64 (x3_1 + 1))) else (some 1)) else (none)) else (none)) else (spec_TreeFault.l0 k1 l0 (wrap64 (x3_1 + 1)))) else (some 1))) else ((spec_l6Is.f k1 ((rd_T132 l0 x3_1).f2) 1).bind fun t345 => (if t345 = true then (if x3_1 > 0 then (if 0 ≤ (wrap64 (x3_1 - 1)) then (if (wrap64 (x3_1 - 1)) < (l0.length : Int) then (if ((Op.bytesLess (((rd_T132 l0 (wrap64 (x3_1 - 1))).f0).toList) (((rd_T132 l0 x3_1).f0).toList)) = true) then (spec_TreeFault.l0 k1 l0 (wrap64 (x3_1 + 1))) else (some 1)) else (none)) else (none)) else (spec_TreeFault.l0 k1 l0 (wrap64 (x3_1 + 1)))) else (some 1)))) else (some 3))) else (some t341)) = some r := H
      have A5 := Aside0.mk A50
      clear A50
      by_cases c6 : t341 = 0
      ·
       rw [if_pos c6] at H
       have c6b0 : (t341 == 0) = true := beq_iff_eq.mpr c6
       have c6b1 : (t341 != 0) = false := bne_eq_false_iff_eq.mpr c6
       clear c6
       replace H := Option.bind_eq_some_iff.mp H
       obtain ⟨t342, A70, H⟩ := H
       replace H : (if t342 = true then (if ((rd_T132 l0 x3_1).f1) = 3 then ((spec_l6Is.f k1 ((rd_T132 l0 x3_1).f2) 2).bind fun t343 => (if t343 = true then (if x3_1 > 0 then (if 0 ≤ (wrap64 (x3_1 - 1)) then (if (wrap64 (x3_1 - 1)) < (l0.length : Int) then (if ((Op.bytesLess (((rd_T132 l0 (wrap64 (x3_1 - 1))).f0).toList) (((rd_T132 l0 x3_1).f0).toList)) = true) then (spec_TreeFault.l0 k1 l0 (wrap64 (x3_1 + 1))) else (some 1)) else (none)) else (none)) else (spec_TreeFault.l0 k1 l0 (wrap64 (x3_1 + 1)))) else (some 1))) else ((spec_l6Is.f k1 ((rd_T132 l0 x3_1).f2) 1).bind fun t345 => (if t345 = true then (if x3_1 > 0 then (if 0 ≤ (wrap64 (x3_1 - 1)) then (if (wrap64 (x3_1 - 1)) < (l0.length : Int) then (if ((Op.bytesLess (((rd_T132 l0 (wrap64 (x3_1 - 1))).f0).toList) (((rd_T132 l0 x3_1).f0).toList)) = true) then (spec_TreeFault.l0 k1 l0 (wrap64 (x3_1 + 1))) else (some 1)) else (none)) else (none)) else (spec_TreeFault.l0 k1 l0 (wrap64 (x3_1 + 1)))) else (some 1)))) else (some 3)) = some r := H
       have A7 := Aside0.mk A70
       clear A70
       by_cases c8 : t342 = true
       ·
        subst c8
        have H1 : (if ((rd_T132 l0 x3_1).f1) = 3 then ((spec_l6Is.f k1 ((rd_T132 l0 x3_1).f2) 2).bind fun t343 => (if t343 = true then (if x3_1 > 0 then (if 0 ≤ (wrap64 (x3_1 - 1)) then (if (wrap64 (x3_1 - 1)) < (l0.length : Int) then (if ((Op.bytesLess (((rd_T132 l0 (wrap64 (x3_1 - 1))).f0).toList) (((rd_T132 l0 x3_1).f0).toList)) = true) then (spec_TreeFault.l0 k1 l0 (wrap64 (x3_1 + 1))) else (some 1)) else (none)) else (none)) else (spec_TreeFault.l0 k1 l0 (wrap64 (x3_1 + 1)))) else (some 1))) else ((spec_l6Is.f k1 ((rd_T132 l0 x3_1).f2) 1).bind fun t345 => (if t345 = true then (if x3_1 > 0 then (if 0 ≤ (wrap64 (x3_1 - 1)) then (if (wrap64 (x3_1 - 1)) < (l0.length : Int) then (if ((Op.bytesLess (((rd_T132 l0 (wrap64 (x3_1 - 1))).f0).toList) (((rd_T132 l0 x3_1).f0).toList)) = true) then (spec_TreeFault.l0 k1 l0 (wrap64 (x3_1 + 1))) else (some 1)) else (none)) else (none)) else (spec_TreeFault.l0 k1 l0 (wrap64 (x3_1 + 1)))) else (some 1)))) = some r := by rw [if_pos rfl] at H; exact H
        clear H
        have H := H1
        clear H1
        by_cases c9 : ((rd_T132 l0 x3_1).f1) = 3
        ·
         rw [if_pos c9] at H
         have c9b0 : (((rd_T132 l0 x3_1).f1) == 3) = true := beq_iff_eq.mpr c9
         have c9b1 : (((rd_T132 l0 x3_1).f1) != 3) = false := bne_eq_false_iff_eq.mpr c9
         clear c9
         replace H := Option.bind_eq_some_iff.mp H
         obtain ⟨t343, A100, H⟩ := H
         replace H : (if t343 = true then (if x3_1 > 0 then (if 0 ≤ (wrap64 (x3_1 - 1)) then (if (wrap64 (x3_1 - 1)) < (l0.length : Int) then (if ((Op.bytesLess (((rd_T132 l0 (wrap64 (x3_1 - 1))).f0).toList) (((rd_T132 l0 x3_1).f0).toList)) = true) then (spec_TreeFault.l0 k1 l0 (wrap64 (x3_1 + 1))) else (some 1)) else (none)) else (none)) else (spec_TreeFault.l0 k1 l0 (wrap64 (x3_1 + 1)))) else (some 1)) = some r := H
         have A10 := Aside0.mk A100
         clear A100
         by_cases c11 : t343 = true
         ·
          subst c11
          have H1 : (if x3_1 > 0 then (if 0 ≤ (wrap64 (x3_1 - 1)) then (if (wrap64 (x3_1 - 1)) < (l0.length : Int) then (if ((Op.bytesLess (((rd_T132 l0 (wrap64 (x3_1 - 1))).f0).toList) (((rd_T132 l0 x3_1).f0).toList)) = true) then (spec_TreeFault.l0 k1 l0 (wrap64 (x3_1 + 1))) else (some 1)) else (none)) else (none)) else (spec_TreeFault.l0 k1 l0 (wrap64 (x3_1 + 1)))) = some r := by rw [if_pos rfl] at H; exact H
          clear H
          have H := H1
          clear H1
          by_cases c12 : x3_1 > 0
          ·
           rw [if_pos c12] at H
           have c12b0 : decide (0 < x3_1) = true := decide_eq_true c12
           clear c12
           obtain ⟨ji13, hji13⟩ : ∃ j_ : Int, (wrap64 (x3_1 - 1)) = j_ := ⟨_, rfl⟩
           replace H : (if 0 ≤ (ji13) then (if (ji13) < (l0.length : Int) then (if ((Op.bytesLess (((rd_T132 l0 (ji13)).f0).toList) (((rd_T132 l0 x3_1).f0).toList)) = true) then (spec_TreeFault.l0 k1 l0 (wrap64 (x3_1 + 1))) else (some 1)) else (none)) else (none)) = some r := by first | (rw [hji13] at H; exact H) | (simp only [hji13] at H ⊢; exact H)
           (try rw [hji13] at A5)
           (try rw [hji13] at A7)
           (try rw [hji13] at A10)
           have hji13w : (IntKind.i64.wrap (x3_1 - 1)) = ji13 := (i64_w _).trans hji13
           by_cases c14 : 0 ≤ (ji13)
           ·
            rw [if_pos c14] at H
            have c14b0 : decide (0 ≤ (ji13)) = true := decide_eq_true c14
            clear c14
            by_cases c15 : (ji13) < (l0.length : Int)
            ·
             rw [if_pos c15] at H
             have c15b0 : decide ((ji13) < (l0.length : Int)) = true := decide_eq_true c15
             clear c15
             by_cases c16 : ((Op.bytesLess (((rd_T132 l0 (ji13)).f0).toList) (((rd_T132 l0 x3_1).f0).toList)) = true)
             ·
              rw [if_pos c16] at H
              have c16b0 : (Op.bytesLess (((rd_T132 l0 (ji13)).f0).toList) (((rd_T132 l0 x3_1).f0).toList)) = true := c16
              clear c16
              have H' := Aside0.mk H
              clear H
              have p339 : 0 ≤ (x3_1 : Int) := of_decide_eq_true (by first | (with_reducible assumption) | assumption)
              have q339 : x3_1 < (l0.length : Int) := of_decide_eq_true (by first | (with_reducible assumption) | assumption)
              obtain ⟨ad339, e339, hx339_0, hx339_1, hx339_2⟩ := at_T132 HR0.out x3_1 p339 q339
              cases e339
              replace hx339_0 := (HB.out.cell (World.block_lt_of_cell? w _ hx339_0)).trans hx339_0
              replace hx339_1 := (HB.out.cell (World.block_lt_of_cell? w _ hx339_1)).trans hx339_1
              replace hx339_2 := (HB.out.cell (World.block_lt_of_cell? w _ hx339_2)).trans hx339_2
              replace p339 := eq_true p339
              replace q339 := eq_true q339
              go_wp2_with (first | ((with_reducible refine gate_dst (N := 4) rfl ?_); refine box_event ?hg (N := 4) ?hd (cs := #[.string (⟨#[]⟩ : ByteArray), .int .i64 0, .string (⟨#[]⟩ : ByteArray)]) (t := 132) ?hr ?_; (case hd => rfl); (case hg => rfl); (case hr => first | (go_simp; done) | (go_simp; rfl)); intro gb340 hg w17 hbox hb; have n0_ := Aside0.mk (below_step (by repeat (first | (with_reducible first | exact HB.out | apply below_alloc | apply pw_below_drewN | apply below_drew1) | exact HB.out)) hb); have n1_ := Aside0.mk (hbox); have n2_ := Aside0.mk ((by rw [hg]; exact (below_size (by repeat (first | (with_reducible first | exact HB.out | apply below_alloc | apply pw_below_drewN | apply below_drew1) | exact HB.out))) : w.heap.size ≤ gb340)); have n3_ := Aside0.mk ((by rw [hg]; exact (below_size (by repeat (first | (with_reducible first | exact HB.out | apply below_alloc | apply pw_below_drewN | apply below_drew1) | exact HB.out))) : w.heap.size ≤ gb340)); clear HB; have HB := n0_; have BK340 := n1_; have GW340 := n2_; have GE340 := n3_; clear n0_ n1_ n2_ n3_; clear hb hbox hg; have hcz18_0 : w17.cell? ⟨gb340, 0, none⟩ = some (.string (⟨#[]⟩ : ByteArray)) := (blk_cell BK340.out 0).trans rfl; have hcz18_1 : w17.cell? ⟨gb340, 1, none⟩ = some (.int .i64 0) := (blk_cell BK340.out 1).trans rfl; have hcz18_2 : w17.cell? ⟨gb340, 2, none⟩ = some (.string (⟨#[]⟩ : ByteArray)) := (blk_cell BK340.out 2).trans rfl; have hfz18_0 := blk_frozen BK340.out 0; have hfz18_1 := blk_frozen BK340.out 1; have hfz18_2 := blk_frozen BK340.out 2) | (go_at_call 104; (with_reducible refine (spec_NameFault.calls k1 ((rd_T132 l0 x3_1).f0) t341 _ A5.out).mono ?_); rintro e w' ⟨rfl, ⟨nd, rfl⟩⟩; (try first | exact ⟨rfl, _, World.drewN_drewN _ _ _⟩ | exact ⟨rfl, _, Eq.trans (World.drewN_drewN _ _ _) (congrArg (World.drewN _) (Nat.add_assoc _ _ _))⟩)) | (go_at_call 77; (with_reducible refine (spec_l1In.calls ((rd_T132 l0 x3_1).f1) 1 3 true _ A7.out).mono ?_); rintro e w' ⟨rfl, ⟨nd, rfl⟩⟩; (try first | exact ⟨rfl, _, World.drewN_drewN _ _ _⟩ | exact ⟨rfl, _, Eq.trans (World.drewN_drewN _ _ _) (congrArg (World.drewN _) (Nat.add_assoc _ _ _))⟩)) | (go_at_call 76; (with_reducible refine (spec_l6Is.calls k1 ((rd_T132 l0 x3_1).f2) 2 true _ A10.out).mono ?_); rintro e w' ⟨rfl, ⟨nd, rfl⟩⟩; (try first | exact ⟨rfl, _, World.drewN_drewN _ _ _⟩ | exact ⟨rfl, _, Eq.trans (World.drewN_drewN _ _ _) (congrArg (World.drewN _) (Nat.add_assoc _ _ _))⟩); have p344 : 0 ≤ ((ji13) : Int) := of_decide_eq_true (by first | (with_reducible assumption) | assumption); have q344 : (ji13) < (l0.length : Int) := of_decide_eq_true (by first | (with_reducible assumption) | assumption); obtain ⟨ad344, e344, hx344_0, hx344_1, hx344_2⟩ := at_T132 HR0.out (ji13) p344 q344; obtain rfl : ad339 = ad344 := (by injection e344); have hn344_0 : ad339.block ≠ gb340 := Nat.ne_of_lt (Nat.lt_of_lt_of_le (by have := World.block_lt_of_cell? _ _ hx344_0; first | rwa [add_block] at this | exact this) GW340.out); have hn344_1 : ad339.block ≠ gb340 := Nat.ne_of_lt (Nat.lt_of_lt_of_le (by have := World.block_lt_of_cell? _ _ hx344_0; first | rwa [add_block] at this | exact this) GW340.out); have hn344_2 : ad339.block ≠ gb340 := Nat.ne_of_lt (Nat.lt_of_lt_of_le (by have := World.block_lt_of_cell? _ _ hx344_0; first | rwa [add_block] at this | exact this) GW340.out); replace hx344_0 := (HB.out.cell (World.block_lt_of_cell? w _ hx344_0)).trans hx344_0; replace hx344_1 := (HB.out.cell (World.block_lt_of_cell? w _ hx344_1)).trans hx344_1; replace hx344_2 := (HB.out.cell (World.block_lt_of_cell? w _ hx344_2)).trans hx344_2; replace hx344_0 := (cell_far (p := ⟨gb340, 0, none⟩) (by first | (rw [add_block]; exact hn344_0) | (show (Addr.add _ _).block ≠ _; rw [add_block]; exact hn344_0) | exact hn344_0) (.string ((rd_T132 l0 x3_1).f0))).trans hx344_0; replace hx344_1 := (cell_far (p := ⟨gb340, 0, none⟩) (by first | (rw [add_block]; exact hn344_0) | (show (Addr.add _ _).block ≠ _; rw [add_block]; exact hn344_0) | exact hn344_0) (.string ((rd_T132 l0 x3_1).f0))).trans hx344_1; replace hx344_2 := (cell_far (p := ⟨gb340, 0, none⟩) (by first | (rw [add_block]; exact hn344_0) | (show (Addr.add _ _).block ≠ _; rw [add_block]; exact hn344_0) | exact hn344_0) (.string ((rd_T132 l0 x3_1).f0))).trans hx344_2; replace hx344_0 := (cell_far (p := ⟨gb340, 1, none⟩) (by first | (rw [add_block]; exact hn344_1) | (show (Addr.add _ _).block ≠ _; rw [add_block]; exact hn344_1) | exact hn344_1) (.int .i64 ((rd_T132 l0 x3_1).f1))).trans hx344_0; replace hx344_1 := (cell_far (p := ⟨gb340, 1, none⟩) (by first | (rw [add_block]; exact hn344_1) | (show (Addr.add _ _).block ≠ _; rw [add_block]; exact hn344_1) | exact hn344_1) (.int .i64 ((rd_T132 l0 x3_1).f1))).trans hx344_1; replace hx344_2 := (cell_far (p := ⟨gb340, 1, none⟩) (by first | (rw [add_block]; exact hn344_1) | (show (Addr.add _ _).block ≠ _; rw [add_block]; exact hn344_1) | exact hn344_1) (.int .i64 ((rd_T132 l0 x3_1).f1))).trans hx344_2; replace hx344_0 := (cell_far (p := ⟨gb340, 2, none⟩) (by first | (rw [add_block]; exact hn344_2) | (show (Addr.add _ _).block ≠ _; rw [add_block]; exact hn344_2) | exact hn344_2) (.string ((rd_T132 l0 x3_1).f2))).trans hx344_0; replace hx344_1 := (cell_far (p := ⟨gb340, 2, none⟩) (by first | (rw [add_block]; exact hn344_2) | (show (Addr.add _ _).block ≠ _; rw [add_block]; exact hn344_2) | exact hn344_2) (.string ((rd_T132 l0 x3_1).f2))).trans hx344_1; replace hx344_2 := (cell_far (p := ⟨gb340, 2, none⟩) (by first | (rw [add_block]; exact hn344_2) | (show (Addr.add _ _).block ≠ _; rw [add_block]; exact hn344_2) | exact hn344_2) (.string ((rd_T132 l0 x3_1).f2))).trans hx344_2; (try have hy344_0 := fun (n_ : Nat) => (show (((((w17.drewN n_).setCell ⟨gb340, 0, none⟩ (.string ((rd_T132 l0 x3_1).f0))).setCell ⟨gb340, 1, none⟩ (.int .i64 ((rd_T132 l0 x3_1).f1))).setCell ⟨gb340, 2, none⟩ (.string ((rd_T132 l0 x3_1).f2)))).cell? _ = some _ from hx344_0)); (try have hy344_1 := fun (n_ : Nat) => (show (((((w17.drewN n_).setCell ⟨gb340, 0, none⟩ (.string ((rd_T132 l0 x3_1).f0))).setCell ⟨gb340, 1, none⟩ (.int .i64 ((rd_T132 l0 x3_1).f1))).setCell ⟨gb340, 2, none⟩ (.string ((rd_T132 l0 x3_1).f2)))).cell? _ = some _ from hx344_1)); (try have hy344_2 := fun (n_ : Nat) => (show (((((w17.drewN n_).setCell ⟨gb340, 0, none⟩ (.string ((rd_T132 l0 x3_1).f0))).setCell ⟨gb340, 1, none⟩ (.int .i64 ((rd_T132 l0 x3_1).f1))).setCell ⟨gb340, 2, none⟩ (.string ((rd_T132 l0 x3_1).f2)))).cell? _ = some _ from hx344_2)); clear hn344_0; clear hn344_1; clear hn344_2; replace p344 := eq_true p344; replace q344 := eq_true q344))
              repeat (go_quiet (first | ((with_reducible refine gate_dst (N := 4) rfl ?_); refine box_event ?hg (N := 4) ?hd (cs := #[.string (⟨#[]⟩ : ByteArray), .int .i64 0, .string (⟨#[]⟩ : ByteArray)]) (t := 132) ?hr ?_; (case hd => rfl); (case hg => rfl); (case hr => first | (go_simp; done) | (go_simp; rfl)); intro gb340 hg w17 hbox hb; have n0_ := Aside0.mk (below_step (by repeat (first | (with_reducible first | exact HB.out | apply below_alloc | apply pw_below_drewN | apply below_drew1) | exact HB.out)) hb); have n1_ := Aside0.mk (hbox); have n2_ := Aside0.mk ((by rw [hg]; exact (below_size (by repeat (first | (with_reducible first | exact HB.out | apply below_alloc | apply pw_below_drewN | apply below_drew1) | exact HB.out))) : w.heap.size ≤ gb340)); have n3_ := Aside0.mk ((by rw [hg]; exact (below_size (by repeat (first | (with_reducible first | exact HB.out | apply below_alloc | apply pw_below_drewN | apply below_drew1) | exact HB.out))) : w.heap.size ≤ gb340)); clear HB; have HB := n0_; have BK340 := n1_; have GW340 := n2_; have GE340 := n3_; clear n0_ n1_ n2_ n3_; clear hb hbox hg; have hcz18_0 : w17.cell? ⟨gb340, 0, none⟩ = some (.string (⟨#[]⟩ : ByteArray)) := (blk_cell BK340.out 0).trans rfl; have hcz18_1 : w17.cell? ⟨gb340, 1, none⟩ = some (.int .i64 0) := (blk_cell BK340.out 1).trans rfl; have hcz18_2 : w17.cell? ⟨gb340, 2, none⟩ = some (.string (⟨#[]⟩ : ByteArray)) := (blk_cell BK340.out 2).trans rfl; have hfz18_0 := blk_frozen BK340.out 0; have hfz18_1 := blk_frozen BK340.out 1; have hfz18_2 := blk_frozen BK340.out 2) | (go_at_call 104; (with_reducible refine (spec_NameFault.calls k1 ((rd_T132 l0 x3_1).f0) t341 _ A5.out).mono ?_); rintro e w' ⟨rfl, ⟨nd, rfl⟩⟩; (try first | exact ⟨rfl, _, World.drewN_drewN _ _ _⟩ | exact ⟨rfl, _, Eq.trans (World.drewN_drewN _ _ _) (congrArg (World.drewN _) (Nat.add_assoc _ _ _))⟩)) | (go_at_call 77; (with_reducible refine (spec_l1In.calls ((rd_T132 l0 x3_1).f1) 1 3 true _ A7.out).mono ?_); rintro e w' ⟨rfl, ⟨nd, rfl⟩⟩; (try first | exact ⟨rfl, _, World.drewN_drewN _ _ _⟩ | exact ⟨rfl, _, Eq.trans (World.drewN_drewN _ _ _) (congrArg (World.drewN _) (Nat.add_assoc _ _ _))⟩)) | (go_at_call 76; (with_reducible refine (spec_l6Is.calls k1 ((rd_T132 l0 x3_1).f2) 2 true _ A10.out).mono ?_); rintro e w' ⟨rfl, ⟨nd, rfl⟩⟩; (try first | exact ⟨rfl, _, World.drewN_drewN _ _ _⟩ | exact ⟨rfl, _, Eq.trans (World.drewN_drewN _ _ _) (congrArg (World.drewN _) (Nat.add_assoc _ _ _))⟩); have p344 : 0 ≤ ((ji13) : Int) := of_decide_eq_true (by first | (with_reducible assumption) | assumption); have q344 : (ji13) < (l0.length : Int) := of_decide_eq_true (by first | (with_reducible assumption) | assumption); obtain ⟨ad344, e344, hx344_0, hx344_1, hx344_2⟩ := at_T132 HR0.out (ji13) p344 q344; obtain rfl : ad339 = ad344 := (by injection e344); have hn344_0 : ad339.block ≠ gb340 := Nat.ne_of_lt (Nat.lt_of_lt_of_le (by have := World.block_lt_of_cell? _ _ hx344_0; first | rwa [add_block] at this | exact this) GW340.out); have hn344_1 : ad339.block ≠ gb340 := Nat.ne_of_lt (Nat.lt_of_lt_of_le (by have := World.block_lt_of_cell? _ _ hx344_0; first | rwa [add_block] at this | exact this) GW340.out); have hn344_2 : ad339.block ≠ gb340 := Nat.ne_of_lt (Nat.lt_of_lt_of_le (by have := World.block_lt_of_cell? _ _ hx344_0; first | rwa [add_block] at this | exact this) GW340.out); replace hx344_0 := (HB.out.cell (World.block_lt_of_cell? w _ hx344_0)).trans hx344_0; replace hx344_1 := (HB.out.cell (World.block_lt_of_cell? w _ hx344_1)).trans hx344_1; replace hx344_2 := (HB.out.cell (World.block_lt_of_cell? w _ hx344_2)).trans hx344_2; replace hx344_0 := (cell_far (p := ⟨gb340, 0, none⟩) (by first | (rw [add_block]; exact hn344_0) | (show (Addr.add _ _).block ≠ _; rw [add_block]; exact hn344_0) | exact hn344_0) (.string ((rd_T132 l0 x3_1).f0))).trans hx344_0; replace hx344_1 := (cell_far (p := ⟨gb340, 0, none⟩) (by first | (rw [add_block]; exact hn344_0) | (show (Addr.add _ _).block ≠ _; rw [add_block]; exact hn344_0) | exact hn344_0) (.string ((rd_T132 l0 x3_1).f0))).trans hx344_1; replace hx344_2 := (cell_far (p := ⟨gb340, 0, none⟩) (by first | (rw [add_block]; exact hn344_0) | (show (Addr.add _ _).block ≠ _; rw [add_block]; exact hn344_0) | exact hn344_0) (.string ((rd_T132 l0 x3_1).f0))).trans hx344_2; replace hx344_0 := (cell_far (p := ⟨gb340, 1, none⟩) (by first | (rw [add_block]; exact hn344_1) | (show (Addr.add _ _).block ≠ _; rw [add_block]; exact hn344_1) | exact hn344_1) (.int .i64 ((rd_T132 l0 x3_1).f1))).trans hx344_0; replace hx344_1 := (cell_far (p := ⟨gb340, 1, none⟩) (by first | (rw [add_block]; exact hn344_1) | (show (Addr.add _ _).block ≠ _; rw [add_block]; exact hn344_1) | exact hn344_1) (.int .i64 ((rd_T132 l0 x3_1).f1))).trans hx344_1; replace hx344_2 := (cell_far (p := ⟨gb340, 1, none⟩) (by first | (rw [add_block]; exact hn344_1) | (show (Addr.add _ _).block ≠ _; rw [add_block]; exact hn344_1) | exact hn344_1) (.int .i64 ((rd_T132 l0 x3_1).f1))).trans hx344_2; replace hx344_0 := (cell_far (p := ⟨gb340, 2, none⟩) (by first | (rw [add_block]; exact hn344_2) | (show (Addr.add _ _).block ≠ _; rw [add_block]; exact hn344_2) | exact hn344_2) (.string ((rd_T132 l0 x3_1).f2))).trans hx344_0; replace hx344_1 := (cell_far (p := ⟨gb340, 2, none⟩) (by first | (rw [add_block]; exact hn344_2) | (show (Addr.add _ _).block ≠ _; rw [add_block]; exact hn344_2) | exact hn344_2) (.string ((rd_T132 l0 x3_1).f2))).trans hx344_1; replace hx344_2 := (cell_far (p := ⟨gb340, 2, none⟩) (by first | (rw [add_block]; exact hn344_2) | (show (Addr.add _ _).block ≠ _; rw [add_block]; exact hn344_2) | exact hn344_2) (.string ((rd_T132 l0 x3_1).f2))).trans hx344_2; (try have hy344_0 := fun (n_ : Nat) => (show (((((w17.drewN n_).setCell ⟨gb340, 0, none⟩ (.string ((rd_T132 l0 x3_1).f0))).setCell ⟨gb340, 1, none⟩ (.int .i64 ((rd_T132 l0 x3_1).f1))).setCell ⟨gb340, 2, none⟩ (.string ((rd_T132 l0 x3_1).f2)))).cell? _ = some _ from hx344_0)); (try have hy344_1 := fun (n_ : Nat) => (show (((((w17.drewN n_).setCell ⟨gb340, 0, none⟩ (.string ((rd_T132 l0 x3_1).f0))).setCell ⟨gb340, 1, none⟩ (.int .i64 ((rd_T132 l0 x3_1).f1))).setCell ⟨gb340, 2, none⟩ (.string ((rd_T132 l0 x3_1).f2)))).cell? _ = some _ from hx344_1)); (try have hy344_2 := fun (n_ : Nat) => (show (((((w17.drewN n_).setCell ⟨gb340, 0, none⟩ (.string ((rd_T132 l0 x3_1).f0))).setCell ⟨gb340, 1, none⟩ (.int .i64 ((rd_T132 l0 x3_1).f1))).setCell ⟨gb340, 2, none⟩ (.string ((rd_T132 l0 x3_1).f2)))).cell? _ = some _ from hx344_2)); clear hn344_0; clear hn344_1; clear hn344_2; replace p344 := eq_true p344; replace q344 := eq_true q344)); try go_wp2_with (first | ((with_reducible refine gate_dst (N := 4) rfl ?_); refine box_event ?hg (N := 4) ?hd (cs := #[.string (⟨#[]⟩ : ByteArray), .int .i64 0, .string (⟨#[]⟩ : ByteArray)]) (t := 132) ?hr ?_; (case hd => rfl); (case hg => rfl); (case hr => first | (go_simp; done) | (go_simp; rfl)); intro gb340 hg w17 hbox hb; have n0_ := Aside0.mk (below_step (by repeat (first | (with_reducible first | exact HB.out | apply below_alloc | apply pw_below_drewN | apply below_drew1) | exact HB.out)) hb); have n1_ := Aside0.mk (hbox); have n2_ := Aside0.mk ((by rw [hg]; exact (below_size (by repeat (first | (with_reducible first | exact HB.out | apply below_alloc | apply pw_below_drewN | apply below_drew1) | exact HB.out))) : w.heap.size ≤ gb340)); have n3_ := Aside0.mk ((by rw [hg]; exact (below_size (by repeat (first | (with_reducible first | exact HB.out | apply below_alloc | apply pw_below_drewN | apply below_drew1) | exact HB.out))) : w.heap.size ≤ gb340)); clear HB; have HB := n0_; have BK340 := n1_; have GW340 := n2_; have GE340 := n3_; clear n0_ n1_ n2_ n3_; clear hb hbox hg; have hcz18_0 : w17.cell? ⟨gb340, 0, none⟩ = some (.string (⟨#[]⟩ : ByteArray)) := (blk_cell BK340.out 0).trans rfl; have hcz18_1 : w17.cell? ⟨gb340, 1, none⟩ = some (.int .i64 0) := (blk_cell BK340.out 1).trans rfl; have hcz18_2 : w17.cell? ⟨gb340, 2, none⟩ = some (.string (⟨#[]⟩ : ByteArray)) := (blk_cell BK340.out 2).trans rfl; have hfz18_0 := blk_frozen BK340.out 0; have hfz18_1 := blk_frozen BK340.out 1; have hfz18_2 := blk_frozen BK340.out 2) | (go_at_call 104; (with_reducible refine (spec_NameFault.calls k1 ((rd_T132 l0 x3_1).f0) t341 _ A5.out).mono ?_); rintro e w' ⟨rfl, ⟨nd, rfl⟩⟩; (try first | exact ⟨rfl, _, World.drewN_drewN _ _ _⟩ | exact ⟨rfl, _, Eq.trans (World.drewN_drewN _ _ _) (congrArg (World.drewN _) (Nat.add_assoc _ _ _))⟩)) | (go_at_call 77; (with_reducible refine (spec_l1In.calls ((rd_T132 l0 x3_1).f1) 1 3 true _ A7.out).mono ?_); rintro e w' ⟨rfl, ⟨nd, rfl⟩⟩; (try first | exact ⟨rfl, _, World.drewN_drewN _ _ _⟩ | exact ⟨rfl, _, Eq.trans (World.drewN_drewN _ _ _) (congrArg (World.drewN _) (Nat.add_assoc _ _ _))⟩)) | (go_at_call 76; (with_reducible refine (spec_l6Is.calls k1 ((rd_T132 l0 x3_1).f2) 2 true _ A10.out).mono ?_); rintro e w' ⟨rfl, ⟨nd, rfl⟩⟩; (try first | exact ⟨rfl, _, World.drewN_drewN _ _ _⟩ | exact ⟨rfl, _, Eq.trans (World.drewN_drewN _ _ _) (congrArg (World.drewN _) (Nat.add_assoc _ _ _))⟩); have p344 : 0 ≤ ((ji13) : Int) := of_decide_eq_true (by first | (with_reducible assumption) | assumption); have q344 : (ji13) < (l0.length : Int) := of_decide_eq_true (by first | (with_reducible assumption) | assumption); obtain ⟨ad344, e344, hx344_0, hx344_1, hx344_2⟩ := at_T132 HR0.out (ji13) p344 q344; obtain rfl : ad339 = ad344 := (by injection e344); have hn344_0 : ad339.block ≠ gb340 := Nat.ne_of_lt (Nat.lt_of_lt_of_le (by have := World.block_lt_of_cell? _ _ hx344_0; first | rwa [add_block] at this | exact this) GW340.out); have hn344_1 : ad339.block ≠ gb340 := Nat.ne_of_lt (Nat.lt_of_lt_of_le (by have := World.block_lt_of_cell? _ _ hx344_0; first | rwa [add_block] at this | exact this) GW340.out); have hn344_2 : ad339.block ≠ gb340 := Nat.ne_of_lt (Nat.lt_of_lt_of_le (by have := World.block_lt_of_cell? _ _ hx344_0; first | rwa [add_block] at this | exact this) GW340.out); replace hx344_0 := (HB.out.cell (World.block_lt_of_cell? w _ hx344_0)).trans hx344_0; replace hx344_1 := (HB.out.cell (World.block_lt_of_cell? w _ hx344_1)).trans hx344_1; replace hx344_2 := (HB.out.cell (World.block_lt_of_cell? w _ hx344_2)).trans hx344_2; replace hx344_0 := (cell_far (p := ⟨gb340, 0, none⟩) (by first | (rw [add_block]; exact hn344_0) | (show (Addr.add _ _).block ≠ _; rw [add_block]; exact hn344_0) | exact hn344_0) (.string ((rd_T132 l0 x3_1).f0))).trans hx344_0; replace hx344_1 := (cell_far (p := ⟨gb340, 0, none⟩) (by first | (rw [add_block]; exact hn344_0) | (show (Addr.add _ _).block ≠ _; rw [add_block]; exact hn344_0) | exact hn344_0) (.string ((rd_T132 l0 x3_1).f0))).trans hx344_1; replace hx344_2 := (cell_far (p := ⟨gb340, 0, none⟩) (by first | (rw [add_block]; exact hn344_0) | (show (Addr.add _ _).block ≠ _; rw [add_block]; exact hn344_0) | exact hn344_0) (.string ((rd_T132 l0 x3_1).f0))).trans hx344_2; replace hx344_0 := (cell_far (p := ⟨gb340, 1, none⟩) (by first | (rw [add_block]; exact hn344_1) | (show (Addr.add _ _).block ≠ _; rw [add_block]; exact hn344_1) | exact hn344_1) (.int .i64 ((rd_T132 l0 x3_1).f1))).trans hx344_0; replace hx344_1 := (cell_far (p := ⟨gb340, 1, none⟩) (by first | (rw [add_block]; exact hn344_1) | (show (Addr.add _ _).block ≠ _; rw [add_block]; exact hn344_1) | exact hn344_1) (.int .i64 ((rd_T132 l0 x3_1).f1))).trans hx344_1; replace hx344_2 := (cell_far (p := ⟨gb340, 1, none⟩) (by first | (rw [add_block]; exact hn344_1) | (show (Addr.add _ _).block ≠ _; rw [add_block]; exact hn344_1) | exact hn344_1) (.int .i64 ((rd_T132 l0 x3_1).f1))).trans hx344_2; replace hx344_0 := (cell_far (p := ⟨gb340, 2, none⟩) (by first | (rw [add_block]; exact hn344_2) | (show (Addr.add _ _).block ≠ _; rw [add_block]; exact hn344_2) | exact hn344_2) (.string ((rd_T132 l0 x3_1).f2))).trans hx344_0; replace hx344_1 := (cell_far (p := ⟨gb340, 2, none⟩) (by first | (rw [add_block]; exact hn344_2) | (show (Addr.add _ _).block ≠ _; rw [add_block]; exact hn344_2) | exact hn344_2) (.string ((rd_T132 l0 x3_1).f2))).trans hx344_1; replace hx344_2 := (cell_far (p := ⟨gb340, 2, none⟩) (by first | (rw [add_block]; exact hn344_2) | (show (Addr.add _ _).block ≠ _; rw [add_block]; exact hn344_2) | exact hn344_2) (.string ((rd_T132 l0 x3_1).f2))).trans hx344_2; (try have hy344_0 := fun (n_ : Nat) => (show (((((w17.drewN n_).setCell ⟨gb340, 0, none⟩ (.string ((rd_T132 l0 x3_1).f0))).setCell ⟨gb340, 1, none⟩ (.int .i64 ((rd_T132 l0 x3_1).f1))).setCell ⟨gb340, 2, none⟩ (.string ((rd_T132 l0 x3_1).f2)))).cell? _ = some _ from hx344_0)); (try have hy344_1 := fun (n_ : Nat) => (show (((((w17.drewN n_).setCell ⟨gb340, 0, none⟩ (.string ((rd_T132 l0 x3_1).f0))).setCell ⟨gb340, 1, none⟩ (.int .i64 ((rd_T132 l0 x3_1).f1))).setCell ⟨gb340, 2, none⟩ (.string ((rd_T132 l0 x3_1).f2)))).cell? _ = some _ from hx344_1)); (try have hy344_2 := fun (n_ : Nat) => (show (((((w17.drewN n_).setCell ⟨gb340, 0, none⟩ (.string ((rd_T132 l0 x3_1).f0))).setCell ⟨gb340, 1, none⟩ (.int .i64 ((rd_T132 l0 x3_1).f1))).setCell ⟨gb340, 2, none⟩ (.string ((rd_T132 l0 x3_1).f2)))).cell? _ = some _ from hx344_2)); clear hn344_0; clear hn344_1; clear hn344_2; replace p344 := eq_true p344; replace q344 := eq_true q344)))
              go_roundg k1
              case measure => have := HK1.out; omega
              case rel => exact ⟨(wrap64 (x3_1 + 1)), (by first | rfl | (simp; done) | (simp [*]; done)), H', ⟨by have := HK1.out; omega⟩, ⟨by repeat (first | (with_reducible first | exact HB.out | apply below_alloc | apply pw_below_drewN | apply below_drew1 | refine below_set ?_ GE340.out) | exact HB.out)⟩⟩
             ·
              rw [if_neg c16] at H
              have c16b0 : (Op.bytesLess (((rd_T132 l0 (ji13)).f0).toList) (((rd_T132 l0 x3_1).f0).toList)) = false := by simpa using c16
              clear c16
              obtain rfl := Option.some.inj H
              have p339 : 0 ≤ (x3_1 : Int) := of_decide_eq_true (by first | (with_reducible assumption) | assumption)
              have q339 : x3_1 < (l0.length : Int) := of_decide_eq_true (by first | (with_reducible assumption) | assumption)
              obtain ⟨ad339, e339, hx339_0, hx339_1, hx339_2⟩ := at_T132 HR0.out x3_1 p339 q339
              cases e339
              replace hx339_0 := (HB.out.cell (World.block_lt_of_cell? w _ hx339_0)).trans hx339_0
              replace hx339_1 := (HB.out.cell (World.block_lt_of_cell? w _ hx339_1)).trans hx339_1
              replace hx339_2 := (HB.out.cell (World.block_lt_of_cell? w _ hx339_2)).trans hx339_2
              replace p339 := eq_true p339
              replace q339 := eq_true q339
              go_wp2_with (first | ((with_reducible refine gate_dst (N := 4) rfl ?_); refine box_event ?hg (N := 4) ?hd (cs := #[.string (⟨#[]⟩ : ByteArray), .int .i64 0, .string (⟨#[]⟩ : ByteArray)]) (t := 132) ?hr ?_; (case hd => rfl); (case hg => rfl); (case hr => first | (go_simp; done) | (go_simp; rfl)); intro gb340 hg w19 hbox hb; have n0_ := Aside0.mk (below_step (by repeat (first | (with_reducible first | exact HB.out | apply below_alloc | apply pw_below_drewN | apply below_drew1) | exact HB.out)) hb); have n1_ := Aside0.mk (hbox); have n2_ := Aside0.mk ((by rw [hg]; exact (below_size (by repeat (first | (with_reducible first | exact HB.out | apply below_alloc | apply pw_below_drewN | apply below_drew1) | exact HB.out))) : w.heap.size ≤ gb340)); have n3_ := Aside0.mk ((by rw [hg]; exact (below_size (by repeat (first | (with_reducible first | exact HB.out | apply below_alloc | apply pw_below_drewN | apply below_drew1) | exact HB.out))) : w.heap.size ≤ gb340)); clear HB; have HB := n0_; have BK340 := n1_; have GW340 := n2_; have GE340 := n3_; clear n0_ n1_ n2_ n3_; clear hb hbox hg; have hcz20_0 : w19.cell? ⟨gb340, 0, none⟩ = some (.string (⟨#[]⟩ : ByteArray)) := (blk_cell BK340.out 0).trans rfl; have hcz20_1 : w19.cell? ⟨gb340, 1, none⟩ = some (.int .i64 0) := (blk_cell BK340.out 1).trans rfl; have hcz20_2 : w19.cell? ⟨gb340, 2, none⟩ = some (.string (⟨#[]⟩ : ByteArray)) := (blk_cell BK340.out 2).trans rfl; have hfz20_0 := blk_frozen BK340.out 0; have hfz20_1 := blk_frozen BK340.out 1; have hfz20_2 := blk_frozen BK340.out 2) | (go_at_call 104; (with_reducible refine (spec_NameFault.calls k1 ((rd_T132 l0 x3_1).f0) t341 _ A5.out).mono ?_); rintro e w' ⟨rfl, ⟨nd, rfl⟩⟩; (try first | exact ⟨rfl, _, World.drewN_drewN _ _ _⟩ | exact ⟨rfl, _, Eq.trans (World.drewN_drewN _ _ _) (congrArg (World.drewN _) (Nat.add_assoc _ _ _))⟩)) | (go_at_call 77; (with_reducible refine (spec_l1In.calls ((rd_T132 l0 x3_1).f1) 1 3 true _ A7.out).mono ?_); rintro e w' ⟨rfl, ⟨nd, rfl⟩⟩; (try first | exact ⟨rfl, _, World.drewN_drewN _ _ _⟩ | exact ⟨rfl, _, Eq.trans (World.drewN_drewN _ _ _) (congrArg (World.drewN _) (Nat.add_assoc _ _ _))⟩)) | (go_at_call 76; (with_reducible refine (spec_l6Is.calls k1 ((rd_T132 l0 x3_1).f2) 2 true _ A10.out).mono ?_); rintro e w' ⟨rfl, ⟨nd, rfl⟩⟩; (try first | exact ⟨rfl, _, World.drewN_drewN _ _ _⟩ | exact ⟨rfl, _, Eq.trans (World.drewN_drewN _ _ _) (congrArg (World.drewN _) (Nat.add_assoc _ _ _))⟩); have p344 : 0 ≤ ((ji13) : Int) := of_decide_eq_true (by first | (with_reducible assumption) | assumption); have q344 : (ji13) < (l0.length : Int) := of_decide_eq_true (by first | (with_reducible assumption) | assumption); obtain ⟨ad344, e344, hx344_0, hx344_1, hx344_2⟩ := at_T132 HR0.out (ji13) p344 q344; obtain rfl : ad339 = ad344 := (by injection e344); have hn344_0 : ad339.block ≠ gb340 := Nat.ne_of_lt (Nat.lt_of_lt_of_le (by have := World.block_lt_of_cell? _ _ hx344_0; first | rwa [add_block] at this | exact this) GW340.out); have hn344_1 : ad339.block ≠ gb340 := Nat.ne_of_lt (Nat.lt_of_lt_of_le (by have := World.block_lt_of_cell? _ _ hx344_0; first | rwa [add_block] at this | exact this) GW340.out); have hn344_2 : ad339.block ≠ gb340 := Nat.ne_of_lt (Nat.lt_of_lt_of_le (by have := World.block_lt_of_cell? _ _ hx344_0; first | rwa [add_block] at this | exact this) GW340.out); replace hx344_0 := (HB.out.cell (World.block_lt_of_cell? w _ hx344_0)).trans hx344_0; replace hx344_1 := (HB.out.cell (World.block_lt_of_cell? w _ hx344_1)).trans hx344_1; replace hx344_2 := (HB.out.cell (World.block_lt_of_cell? w _ hx344_2)).trans hx344_2; replace hx344_0 := (cell_far (p := ⟨gb340, 0, none⟩) (by first | (rw [add_block]; exact hn344_0) | (show (Addr.add _ _).block ≠ _; rw [add_block]; exact hn344_0) | exact hn344_0) (.string ((rd_T132 l0 x3_1).f0))).trans hx344_0; replace hx344_1 := (cell_far (p := ⟨gb340, 0, none⟩) (by first | (rw [add_block]; exact hn344_0) | (show (Addr.add _ _).block ≠ _; rw [add_block]; exact hn344_0) | exact hn344_0) (.string ((rd_T132 l0 x3_1).f0))).trans hx344_1; replace hx344_2 := (cell_far (p := ⟨gb340, 0, none⟩) (by first | (rw [add_block]; exact hn344_0) | (show (Addr.add _ _).block ≠ _; rw [add_block]; exact hn344_0) | exact hn344_0) (.string ((rd_T132 l0 x3_1).f0))).trans hx344_2; replace hx344_0 := (cell_far (p := ⟨gb340, 1, none⟩) (by first | (rw [add_block]; exact hn344_1) | (show (Addr.add _ _).block ≠ _; rw [add_block]; exact hn344_1) | exact hn344_1) (.int .i64 ((rd_T132 l0 x3_1).f1))).trans hx344_0; replace hx344_1 := (cell_far (p := ⟨gb340, 1, none⟩) (by first | (rw [add_block]; exact hn344_1) | (show (Addr.add _ _).block ≠ _; rw [add_block]; exact hn344_1) | exact hn344_1) (.int .i64 ((rd_T132 l0 x3_1).f1))).trans hx344_1; replace hx344_2 := (cell_far (p := ⟨gb340, 1, none⟩) (by first | (rw [add_block]; exact hn344_1) | (show (Addr.add _ _).block ≠ _; rw [add_block]; exact hn344_1) | exact hn344_1) (.int .i64 ((rd_T132 l0 x3_1).f1))).trans hx344_2; replace hx344_0 := (cell_far (p := ⟨gb340, 2, none⟩) (by first | (rw [add_block]; exact hn344_2) | (show (Addr.add _ _).block ≠ _; rw [add_block]; exact hn344_2) | exact hn344_2) (.string ((rd_T132 l0 x3_1).f2))).trans hx344_0; replace hx344_1 := (cell_far (p := ⟨gb340, 2, none⟩) (by first | (rw [add_block]; exact hn344_2) | (show (Addr.add _ _).block ≠ _; rw [add_block]; exact hn344_2) | exact hn344_2) (.string ((rd_T132 l0 x3_1).f2))).trans hx344_1; replace hx344_2 := (cell_far (p := ⟨gb340, 2, none⟩) (by first | (rw [add_block]; exact hn344_2) | (show (Addr.add _ _).block ≠ _; rw [add_block]; exact hn344_2) | exact hn344_2) (.string ((rd_T132 l0 x3_1).f2))).trans hx344_2; (try have hy344_0 := fun (n_ : Nat) => (show (((((w19.drewN n_).setCell ⟨gb340, 0, none⟩ (.string ((rd_T132 l0 x3_1).f0))).setCell ⟨gb340, 1, none⟩ (.int .i64 ((rd_T132 l0 x3_1).f1))).setCell ⟨gb340, 2, none⟩ (.string ((rd_T132 l0 x3_1).f2)))).cell? _ = some _ from hx344_0)); (try have hy344_1 := fun (n_ : Nat) => (show (((((w19.drewN n_).setCell ⟨gb340, 0, none⟩ (.string ((rd_T132 l0 x3_1).f0))).setCell ⟨gb340, 1, none⟩ (.int .i64 ((rd_T132 l0 x3_1).f1))).setCell ⟨gb340, 2, none⟩ (.string ((rd_T132 l0 x3_1).f2)))).cell? _ = some _ from hx344_1)); (try have hy344_2 := fun (n_ : Nat) => (show (((((w19.drewN n_).setCell ⟨gb340, 0, none⟩ (.string ((rd_T132 l0 x3_1).f0))).setCell ⟨gb340, 1, none⟩ (.int .i64 ((rd_T132 l0 x3_1).f1))).setCell ⟨gb340, 2, none⟩ (.string ((rd_T132 l0 x3_1).f2)))).cell? _ = some _ from hx344_2)); clear hn344_0; clear hn344_1; clear hn344_2; replace p344 := eq_true p344; replace q344 := eq_true q344))
              repeat (go_quiet (first | ((with_reducible refine gate_dst (N := 4) rfl ?_); refine box_event ?hg (N := 4) ?hd (cs := #[.string (⟨#[]⟩ : ByteArray), .int .i64 0, .string (⟨#[]⟩ : ByteArray)]) (t := 132) ?hr ?_; (case hd => rfl); (case hg => rfl); (case hr => first | (go_simp; done) | (go_simp; rfl)); intro gb340 hg w19 hbox hb; have n0_ := Aside0.mk (below_step (by repeat (first | (with_reducible first | exact HB.out | apply below_alloc | apply pw_below_drewN | apply below_drew1) | exact HB.out)) hb); have n1_ := Aside0.mk (hbox); have n2_ := Aside0.mk ((by rw [hg]; exact (below_size (by repeat (first | (with_reducible first | exact HB.out | apply below_alloc | apply pw_below_drewN | apply below_drew1) | exact HB.out))) : w.heap.size ≤ gb340)); have n3_ := Aside0.mk ((by rw [hg]; exact (below_size (by repeat (first | (with_reducible first | exact HB.out | apply below_alloc | apply pw_below_drewN | apply below_drew1) | exact HB.out))) : w.heap.size ≤ gb340)); clear HB; have HB := n0_; have BK340 := n1_; have GW340 := n2_; have GE340 := n3_; clear n0_ n1_ n2_ n3_; clear hb hbox hg; have hcz20_0 : w19.cell? ⟨gb340, 0, none⟩ = some (.string (⟨#[]⟩ : ByteArray)) := (blk_cell BK340.out 0).trans rfl; have hcz20_1 : w19.cell? ⟨gb340, 1, none⟩ = some (.int .i64 0) := (blk_cell BK340.out 1).trans rfl; have hcz20_2 : w19.cell? ⟨gb340, 2, none⟩ = some (.string (⟨#[]⟩ : ByteArray)) := (blk_cell BK340.out 2).trans rfl; have hfz20_0 := blk_frozen BK340.out 0; have hfz20_1 := blk_frozen BK340.out 1; have hfz20_2 := blk_frozen BK340.out 2) | (go_at_call 104; (with_reducible refine (spec_NameFault.calls k1 ((rd_T132 l0 x3_1).f0) t341 _ A5.out).mono ?_); rintro e w' ⟨rfl, ⟨nd, rfl⟩⟩; (try first | exact ⟨rfl, _, World.drewN_drewN _ _ _⟩ | exact ⟨rfl, _, Eq.trans (World.drewN_drewN _ _ _) (congrArg (World.drewN _) (Nat.add_assoc _ _ _))⟩)) | (go_at_call 77; (with_reducible refine (spec_l1In.calls ((rd_T132 l0 x3_1).f1) 1 3 true _ A7.out).mono ?_); rintro e w' ⟨rfl, ⟨nd, rfl⟩⟩; (try first | exact ⟨rfl, _, World.drewN_drewN _ _ _⟩ | exact ⟨rfl, _, Eq.trans (World.drewN_drewN _ _ _) (congrArg (World.drewN _) (Nat.add_assoc _ _ _))⟩)) | (go_at_call 76; (with_reducible refine (spec_l6Is.calls k1 ((rd_T132 l0 x3_1).f2) 2 true _ A10.out).mono ?_); rintro e w' ⟨rfl, ⟨nd, rfl⟩⟩; (try first | exact ⟨rfl, _, World.drewN_drewN _ _ _⟩ | exact ⟨rfl, _, Eq.trans (World.drewN_drewN _ _ _) (congrArg (World.drewN _) (Nat.add_assoc _ _ _))⟩); have p344 : 0 ≤ ((ji13) : Int) := of_decide_eq_true (by first | (with_reducible assumption) | assumption); have q344 : (ji13) < (l0.length : Int) := of_decide_eq_true (by first | (with_reducible assumption) | assumption); obtain ⟨ad344, e344, hx344_0, hx344_1, hx344_2⟩ := at_T132 HR0.out (ji13) p344 q344; obtain rfl : ad339 = ad344 := (by injection e344); have hn344_0 : ad339.block ≠ gb340 := Nat.ne_of_lt (Nat.lt_of_lt_of_le (by have := World.block_lt_of_cell? _ _ hx344_0; first | rwa [add_block] at this | exact this) GW340.out); have hn344_1 : ad339.block ≠ gb340 := Nat.ne_of_lt (Nat.lt_of_lt_of_le (by have := World.block_lt_of_cell? _ _ hx344_0; first | rwa [add_block] at this | exact this) GW340.out); have hn344_2 : ad339.block ≠ gb340 := Nat.ne_of_lt (Nat.lt_of_lt_of_le (by have := World.block_lt_of_cell? _ _ hx344_0; first | rwa [add_block] at this | exact this) GW340.out); replace hx344_0 := (HB.out.cell (World.block_lt_of_cell? w _ hx344_0)).trans hx344_0; replace hx344_1 := (HB.out.cell (World.block_lt_of_cell? w _ hx344_1)).trans hx344_1; replace hx344_2 := (HB.out.cell (World.block_lt_of_cell? w _ hx344_2)).trans hx344_2; replace hx344_0 := (cell_far (p := ⟨gb340, 0, none⟩) (by first | (rw [add_block]; exact hn344_0) | (show (Addr.add _ _).block ≠ _; rw [add_block]; exact hn344_0) | exact hn344_0) (.string ((rd_T132 l0 x3_1).f0))).trans hx344_0; replace hx344_1 := (cell_far (p := ⟨gb340, 0, none⟩) (by first | (rw [add_block]; exact hn344_0) | (show (Addr.add _ _).block ≠ _; rw [add_block]; exact hn344_0) | exact hn344_0) (.string ((rd_T132 l0 x3_1).f0))).trans hx344_1; replace hx344_2 := (cell_far (p := ⟨gb340, 0, none⟩) (by first | (rw [add_block]; exact hn344_0) | (show (Addr.add _ _).block ≠ _; rw [add_block]; exact hn344_0) | exact hn344_0) (.string ((rd_T132 l0 x3_1).f0))).trans hx344_2; replace hx344_0 := (cell_far (p := ⟨gb340, 1, none⟩) (by first | (rw [add_block]; exact hn344_1) | (show (Addr.add _ _).block ≠ _; rw [add_block]; exact hn344_1) | exact hn344_1) (.int .i64 ((rd_T132 l0 x3_1).f1))).trans hx344_0; replace hx344_1 := (cell_far (p := ⟨gb340, 1, none⟩) (by first | (rw [add_block]; exact hn344_1) | (show (Addr.add _ _).block ≠ _; rw [add_block]; exact hn344_1) | exact hn344_1) (.int .i64 ((rd_T132 l0 x3_1).f1))).trans hx344_1; replace hx344_2 := (cell_far (p := ⟨gb340, 1, none⟩) (by first | (rw [add_block]; exact hn344_1) | (show (Addr.add _ _).block ≠ _; rw [add_block]; exact hn344_1) | exact hn344_1) (.int .i64 ((rd_T132 l0 x3_1).f1))).trans hx344_2; replace hx344_0 := (cell_far (p := ⟨gb340, 2, none⟩) (by first | (rw [add_block]; exact hn344_2) | (show (Addr.add _ _).block ≠ _; rw [add_block]; exact hn344_2) | exact hn344_2) (.string ((rd_T132 l0 x3_1).f2))).trans hx344_0; replace hx344_1 := (cell_far (p := ⟨gb340, 2, none⟩) (by first | (rw [add_block]; exact hn344_2) | (show (Addr.add _ _).block ≠ _; rw [add_block]; exact hn344_2) | exact hn344_2) (.string ((rd_T132 l0 x3_1).f2))).trans hx344_1; replace hx344_2 := (cell_far (p := ⟨gb340, 2, none⟩) (by first | (rw [add_block]; exact hn344_2) | (show (Addr.add _ _).block ≠ _; rw [add_block]; exact hn344_2) | exact hn344_2) (.string ((rd_T132 l0 x3_1).f2))).trans hx344_2; (try have hy344_0 := fun (n_ : Nat) => (show (((((w19.drewN n_).setCell ⟨gb340, 0, none⟩ (.string ((rd_T132 l0 x3_1).f0))).setCell ⟨gb340, 1, none⟩ (.int .i64 ((rd_T132 l0 x3_1).f1))).setCell ⟨gb340, 2, none⟩ (.string ((rd_T132 l0 x3_1).f2)))).cell? _ = some _ from hx344_0)); (try have hy344_1 := fun (n_ : Nat) => (show (((((w19.drewN n_).setCell ⟨gb340, 0, none⟩ (.string ((rd_T132 l0 x3_1).f0))).setCell ⟨gb340, 1, none⟩ (.int .i64 ((rd_T132 l0 x3_1).f1))).setCell ⟨gb340, 2, none⟩ (.string ((rd_T132 l0 x3_1).f2)))).cell? _ = some _ from hx344_1)); (try have hy344_2 := fun (n_ : Nat) => (show (((((w19.drewN n_).setCell ⟨gb340, 0, none⟩ (.string ((rd_T132 l0 x3_1).f0))).setCell ⟨gb340, 1, none⟩ (.int .i64 ((rd_T132 l0 x3_1).f1))).setCell ⟨gb340, 2, none⟩ (.string ((rd_T132 l0 x3_1).f2)))).cell? _ = some _ from hx344_2)); clear hn344_0; clear hn344_1; clear hn344_2; replace p344 := eq_true p344; replace q344 := eq_true q344)); try go_wp2_with (first | ((with_reducible refine gate_dst (N := 4) rfl ?_); refine box_event ?hg (N := 4) ?hd (cs := #[.string (⟨#[]⟩ : ByteArray), .int .i64 0, .string (⟨#[]⟩ : ByteArray)]) (t := 132) ?hr ?_; (case hd => rfl); (case hg => rfl); (case hr => first | (go_simp; done) | (go_simp; rfl)); intro gb340 hg w19 hbox hb; have n0_ := Aside0.mk (below_step (by repeat (first | (with_reducible first | exact HB.out | apply below_alloc | apply pw_below_drewN | apply below_drew1) | exact HB.out)) hb); have n1_ := Aside0.mk (hbox); have n2_ := Aside0.mk ((by rw [hg]; exact (below_size (by repeat (first | (with_reducible first | exact HB.out | apply below_alloc | apply pw_below_drewN | apply below_drew1) | exact HB.out))) : w.heap.size ≤ gb340)); have n3_ := Aside0.mk ((by rw [hg]; exact (below_size (by repeat (first | (with_reducible first | exact HB.out | apply below_alloc | apply pw_below_drewN | apply below_drew1) | exact HB.out))) : w.heap.size ≤ gb340)); clear HB; have HB := n0_; have BK340 := n1_; have GW340 := n2_; have GE340 := n3_; clear n0_ n1_ n2_ n3_; clear hb hbox hg; have hcz20_0 : w19.cell? ⟨gb340, 0, none⟩ = some (.string (⟨#[]⟩ : ByteArray)) := (blk_cell BK340.out 0).trans rfl; have hcz20_1 : w19.cell? ⟨gb340, 1, none⟩ = some (.int .i64 0) := (blk_cell BK340.out 1).trans rfl; have hcz20_2 : w19.cell? ⟨gb340, 2, none⟩ = some (.string (⟨#[]⟩ : ByteArray)) := (blk_cell BK340.out 2).trans rfl; have hfz20_0 := blk_frozen BK340.out 0; have hfz20_1 := blk_frozen BK340.out 1; have hfz20_2 := blk_frozen BK340.out 2) | (go_at_call 104; (with_reducible refine (spec_NameFault.calls k1 ((rd_T132 l0 x3_1).f0) t341 _ A5.out).mono ?_); rintro e w' ⟨rfl, ⟨nd, rfl⟩⟩; (try first | exact ⟨rfl, _, World.drewN_drewN _ _ _⟩ | exact ⟨rfl, _, Eq.trans (World.drewN_drewN _ _ _) (congrArg (World.drewN _) (Nat.add_assoc _ _ _))⟩)) | (go_at_call 77; (with_reducible refine (spec_l1In.calls ((rd_T132 l0 x3_1).f1) 1 3 true _ A7.out).mono ?_); rintro e w' ⟨rfl, ⟨nd, rfl⟩⟩; (try first | exact ⟨rfl, _, World.drewN_drewN _ _ _⟩ | exact ⟨rfl, _, Eq.trans (World.drewN_drewN _ _ _) (congrArg (World.drewN _) (Nat.add_assoc _ _ _))⟩)) | (go_at_call 76; (with_reducible refine (spec_l6Is.calls k1 ((rd_T132 l0 x3_1).f2) 2 true _ A10.out).mono ?_); rintro e w' ⟨rfl, ⟨nd, rfl⟩⟩; (try first | exact ⟨rfl, _, World.drewN_drewN _ _ _⟩ | exact ⟨rfl, _, Eq.trans (World.drewN_drewN _ _ _) (congrArg (World.drewN _) (Nat.add_assoc _ _ _))⟩); have p344 : 0 ≤ ((ji13) : Int) := of_decide_eq_true (by first | (with_reducible assumption) | assumption); have q344 : (ji13) < (l0.length : Int) := of_decide_eq_true (by first | (with_reducible assumption) | assumption); obtain ⟨ad344, e344, hx344_0, hx344_1, hx344_2⟩ := at_T132 HR0.out (ji13) p344 q344; obtain rfl : ad339 = ad344 := (by injection e344); have hn344_0 : ad339.block ≠ gb340 := Nat.ne_of_lt (Nat.lt_of_lt_of_le (by have := World.block_lt_of_cell? _ _ hx344_0; first | rwa [add_block] at this | exact this) GW340.out); have hn344_1 : ad339.block ≠ gb340 := Nat.ne_of_lt (Nat.lt_of_lt_of_le (by have := World.block_lt_of_cell? _ _ hx344_0; first | rwa [add_block] at this | exact this) GW340.out); have hn344_2 : ad339.block ≠ gb340 := Nat.ne_of_lt (Nat.lt_of_lt_of_le (by have := World.block_lt_of_cell? _ _ hx344_0; first | rwa [add_block] at this | exact this) GW340.out); replace hx344_0 := (HB.out.cell (World.block_lt_of_cell? w _ hx344_0)).trans hx344_0; replace hx344_1 := (HB.out.cell (World.block_lt_of_cell? w _ hx344_1)).trans hx344_1; replace hx344_2 := (HB.out.cell (World.block_lt_of_cell? w _ hx344_2)).trans hx344_2; replace hx344_0 := (cell_far (p := ⟨gb340, 0, none⟩) (by first | (rw [add_block]; exact hn344_0) | (show (Addr.add _ _).block ≠ _; rw [add_block]; exact hn344_0) | exact hn344_0) (.string ((rd_T132 l0 x3_1).f0))).trans hx344_0; replace hx344_1 := (cell_far (p := ⟨gb340, 0, none⟩) (by first | (rw [add_block]; exact hn344_0) | (show (Addr.add _ _).block ≠ _; rw [add_block]; exact hn344_0) | exact hn344_0) (.string ((rd_T132 l0 x3_1).f0))).trans hx344_1; replace hx344_2 := (cell_far (p := ⟨gb340, 0, none⟩) (by first | (rw [add_block]; exact hn344_0) | (show (Addr.add _ _).block ≠ _; rw [add_block]; exact hn344_0) | exact hn344_0) (.string ((rd_T132 l0 x3_1).f0))).trans hx344_2; replace hx344_0 := (cell_far (p := ⟨gb340, 1, none⟩) (by first | (rw [add_block]; exact hn344_1) | (show (Addr.add _ _).block ≠ _; rw [add_block]; exact hn344_1) | exact hn344_1) (.int .i64 ((rd_T132 l0 x3_1).f1))).trans hx344_0; replace hx344_1 := (cell_far (p := ⟨gb340, 1, none⟩) (by first | (rw [add_block]; exact hn344_1) | (show (Addr.add _ _).block ≠ _; rw [add_block]; exact hn344_1) | exact hn344_1) (.int .i64 ((rd_T132 l0 x3_1).f1))).trans hx344_1; replace hx344_2 := (cell_far (p := ⟨gb340, 1, none⟩) (by first | (rw [add_block]; exact hn344_1) | (show (Addr.add _ _).block ≠ _; rw [add_block]; exact hn344_1) | exact hn344_1) (.int .i64 ((rd_T132 l0 x3_1).f1))).trans hx344_2; replace hx344_0 := (cell_far (p := ⟨gb340, 2, none⟩) (by first | (rw [add_block]; exact hn344_2) | (show (Addr.add _ _).block ≠ _; rw [add_block]; exact hn344_2) | exact hn344_2) (.string ((rd_T132 l0 x3_1).f2))).trans hx344_0; replace hx344_1 := (cell_far (p := ⟨gb340, 2, none⟩) (by first | (rw [add_block]; exact hn344_2) | (show (Addr.add _ _).block ≠ _; rw [add_block]; exact hn344_2) | exact hn344_2) (.string ((rd_T132 l0 x3_1).f2))).trans hx344_1; replace hx344_2 := (cell_far (p := ⟨gb340, 2, none⟩) (by first | (rw [add_block]; exact hn344_2) | (show (Addr.add _ _).block ≠ _; rw [add_block]; exact hn344_2) | exact hn344_2) (.string ((rd_T132 l0 x3_1).f2))).trans hx344_2; (try have hy344_0 := fun (n_ : Nat) => (show (((((w19.drewN n_).setCell ⟨gb340, 0, none⟩ (.string ((rd_T132 l0 x3_1).f0))).setCell ⟨gb340, 1, none⟩ (.int .i64 ((rd_T132 l0 x3_1).f1))).setCell ⟨gb340, 2, none⟩ (.string ((rd_T132 l0 x3_1).f2)))).cell? _ = some _ from hx344_0)); (try have hy344_1 := fun (n_ : Nat) => (show (((((w19.drewN n_).setCell ⟨gb340, 0, none⟩ (.string ((rd_T132 l0 x3_1).f0))).setCell ⟨gb340, 1, none⟩ (.int .i64 ((rd_T132 l0 x3_1).f1))).setCell ⟨gb340, 2, none⟩ (.string ((rd_T132 l0 x3_1).f2)))).cell? _ = some _ from hx344_1)); (try have hy344_2 := fun (n_ : Nat) => (show (((((w19.drewN n_).setCell ⟨gb340, 0, none⟩ (.string ((rd_T132 l0 x3_1).f0))).setCell ⟨gb340, 1, none⟩ (.int .i64 ((rd_T132 l0 x3_1).f1))).setCell ⟨gb340, 2, none⟩ (.string ((rd_T132 l0 x3_1).f2)))).cell? _ = some _ from hx344_2)); clear hn344_0; clear hn344_1; clear hn344_2; replace p344 := eq_true p344; replace q344 := eq_true q344)))
              go_ret
              exact ⟨by first | rfl | (simp [errW_none, errW_some] <;> rfl) | (simp only [← hji13]; first | rfl | (simp [errW_none, errW_some] <;> rfl)) | (simp [*, errW_none, errW_some] <;> rfl), by repeat (first | (with_reducible first | exact HB.out | apply below_alloc | apply pw_below_drewN | apply below_drew1 | refine below_set ?_ GE340.out) | exact HB.out)⟩
            ·
             rw [if_neg c15] at H
             exact absurd H (by simp)
           ·
            rw [if_neg c14] at H
            exact absurd H (by simp)
          ·
           rw [if_neg c12] at H
           have c12b0 : decide (0 < x3_1) = false := decide_eq_false c12
           clear c12
           have H' := Aside0.mk H
           clear H
           have p339 : 0 ≤ (x3_1 : Int) := of_decide_eq_true (by first | (with_reducible assumption) | assumption)
           have q339 : x3_1 < (l0.length : Int) := of_decide_eq_true (by first | (with_reducible assumption) | assumption)
           obtain ⟨ad339, e339, hx339_0, hx339_1, hx339_2⟩ := at_T132 HR0.out x3_1 p339 q339
           cases e339
           replace hx339_0 := (HB.out.cell (World.block_lt_of_cell? w _ hx339_0)).trans hx339_0
           replace hx339_1 := (HB.out.cell (World.block_lt_of_cell? w _ hx339_1)).trans hx339_1
           replace hx339_2 := (HB.out.cell (World.block_lt_of_cell? w _ hx339_2)).trans hx339_2
           replace p339 := eq_true p339
           replace q339 := eq_true q339
           go_wp2_with (first | ((with_reducible refine gate_dst (N := 4) rfl ?_); refine box_event ?hg (N := 4) ?hd (cs := #[.string (⟨#[]⟩ : ByteArray), .int .i64 0, .string (⟨#[]⟩ : ByteArray)]) (t := 132) ?hr ?_; (case hd => rfl); (case hg => rfl); (case hr => first | (go_simp; done) | (go_simp; rfl)); intro gb340 hg w21 hbox hb; have n0_ := Aside0.mk (below_step (by repeat (first | (with_reducible first | exact HB.out | apply below_alloc | apply pw_below_drewN | apply below_drew1) | exact HB.out)) hb); have n1_ := Aside0.mk (hbox); have n2_ := Aside0.mk ((by rw [hg]; exact (below_size (by repeat (first | (with_reducible first | exact HB.out | apply below_alloc | apply pw_below_drewN | apply below_drew1) | exact HB.out))) : w.heap.size ≤ gb340)); have n3_ := Aside0.mk ((by rw [hg]; exact (below_size (by repeat (first | (with_reducible first | exact HB.out | apply below_alloc | apply pw_below_drewN | apply below_drew1) | exact HB.out))) : w.heap.size ≤ gb340)); clear HB; have HB := n0_; have BK340 := n1_; have GW340 := n2_; have GE340 := n3_; clear n0_ n1_ n2_ n3_; clear hb hbox hg; have hcz22_0 : w21.cell? ⟨gb340, 0, none⟩ = some (.string (⟨#[]⟩ : ByteArray)) := (blk_cell BK340.out 0).trans rfl; have hcz22_1 : w21.cell? ⟨gb340, 1, none⟩ = some (.int .i64 0) := (blk_cell BK340.out 1).trans rfl; have hcz22_2 : w21.cell? ⟨gb340, 2, none⟩ = some (.string (⟨#[]⟩ : ByteArray)) := (blk_cell BK340.out 2).trans rfl; have hfz22_0 := blk_frozen BK340.out 0; have hfz22_1 := blk_frozen BK340.out 1; have hfz22_2 := blk_frozen BK340.out 2) | (go_at_call 104; (with_reducible refine (spec_NameFault.calls k1 ((rd_T132 l0 x3_1).f0) t341 _ A5.out).mono ?_); rintro e w' ⟨rfl, ⟨nd, rfl⟩⟩; (try first | exact ⟨rfl, _, World.drewN_drewN _ _ _⟩ | exact ⟨rfl, _, Eq.trans (World.drewN_drewN _ _ _) (congrArg (World.drewN _) (Nat.add_assoc _ _ _))⟩)) | (go_at_call 77; (with_reducible refine (spec_l1In.calls ((rd_T132 l0 x3_1).f1) 1 3 true _ A7.out).mono ?_); rintro e w' ⟨rfl, ⟨nd, rfl⟩⟩; (try first | exact ⟨rfl, _, World.drewN_drewN _ _ _⟩ | exact ⟨rfl, _, Eq.trans (World.drewN_drewN _ _ _) (congrArg (World.drewN _) (Nat.add_assoc _ _ _))⟩)) | (go_at_call 76; (with_reducible refine (spec_l6Is.calls k1 ((rd_T132 l0 x3_1).f2) 2 true _ A10.out).mono ?_); rintro e w' ⟨rfl, ⟨nd, rfl⟩⟩; (try first | exact ⟨rfl, _, World.drewN_drewN _ _ _⟩ | exact ⟨rfl, _, Eq.trans (World.drewN_drewN _ _ _) (congrArg (World.drewN _) (Nat.add_assoc _ _ _))⟩)))
           repeat (go_quiet (first | ((with_reducible refine gate_dst (N := 4) rfl ?_); refine box_event ?hg (N := 4) ?hd (cs := #[.string (⟨#[]⟩ : ByteArray), .int .i64 0, .string (⟨#[]⟩ : ByteArray)]) (t := 132) ?hr ?_; (case hd => rfl); (case hg => rfl); (case hr => first | (go_simp; done) | (go_simp; rfl)); intro gb340 hg w21 hbox hb; have n0_ := Aside0.mk (below_step (by repeat (first | (with_reducible first | exact HB.out | apply below_alloc | apply pw_below_drewN | apply below_drew1) | exact HB.out)) hb); have n1_ := Aside0.mk (hbox); have n2_ := Aside0.mk ((by rw [hg]; exact (below_size (by repeat (first | (with_reducible first | exact HB.out | apply below_alloc | apply pw_below_drewN | apply below_drew1) | exact HB.out))) : w.heap.size ≤ gb340)); have n3_ := Aside0.mk ((by rw [hg]; exact (below_size (by repeat (first | (with_reducible first | exact HB.out | apply below_alloc | apply pw_below_drewN | apply below_drew1) | exact HB.out))) : w.heap.size ≤ gb340)); clear HB; have HB := n0_; have BK340 := n1_; have GW340 := n2_; have GE340 := n3_; clear n0_ n1_ n2_ n3_; clear hb hbox hg; have hcz22_0 : w21.cell? ⟨gb340, 0, none⟩ = some (.string (⟨#[]⟩ : ByteArray)) := (blk_cell BK340.out 0).trans rfl; have hcz22_1 : w21.cell? ⟨gb340, 1, none⟩ = some (.int .i64 0) := (blk_cell BK340.out 1).trans rfl; have hcz22_2 : w21.cell? ⟨gb340, 2, none⟩ = some (.string (⟨#[]⟩ : ByteArray)) := (blk_cell BK340.out 2).trans rfl; have hfz22_0 := blk_frozen BK340.out 0; have hfz22_1 := blk_frozen BK340.out 1; have hfz22_2 := blk_frozen BK340.out 2) | (go_at_call 104; (with_reducible refine (spec_NameFault.calls k1 ((rd_T132 l0 x3_1).f0) t341 _ A5.out).mono ?_); rintro e w' ⟨rfl, ⟨nd, rfl⟩⟩; (try first | exact ⟨rfl, _, World.drewN_drewN _ _ _⟩ | exact ⟨rfl, _, Eq.trans (World.drewN_drewN _ _ _) (congrArg (World.drewN _) (Nat.add_assoc _ _ _))⟩)) | (go_at_call 77; (with_reducible refine (spec_l1In.calls ((rd_T132 l0 x3_1).f1) 1 3 true _ A7.out).mono ?_); rintro e w' ⟨rfl, ⟨nd, rfl⟩⟩; (try first | exact ⟨rfl, _, World.drewN_drewN _ _ _⟩ | exact ⟨rfl, _, Eq.trans (World.drewN_drewN _ _ _) (congrArg (World.drewN _) (Nat.add_assoc _ _ _))⟩)) | (go_at_call 76; (with_reducible refine (spec_l6Is.calls k1 ((rd_T132 l0 x3_1).f2) 2 true _ A10.out).mono ?_); rintro e w' ⟨rfl, ⟨nd, rfl⟩⟩; (try first | exact ⟨rfl, _, World.drewN_drewN _ _ _⟩ | exact ⟨rfl, _, Eq.trans (World.drewN_drewN _ _ _) (congrArg (World.drewN _) (Nat.add_assoc _ _ _))⟩))); try go_wp2_with (first | ((with_reducible refine gate_dst (N := 4) rfl ?_); refine box_event ?hg (N := 4) ?hd (cs := #[.string (⟨#[]⟩ : ByteArray), .int .i64 0, .string (⟨#[]⟩ : ByteArray)]) (t := 132) ?hr ?_; (case hd => rfl); (case hg => rfl); (case hr => first | (go_simp; done) | (go_simp; rfl)); intro gb340 hg w21 hbox hb; have n0_ := Aside0.mk (below_step (by repeat (first | (with_reducible first | exact HB.out | apply below_alloc | apply pw_below_drewN | apply below_drew1) | exact HB.out)) hb); have n1_ := Aside0.mk (hbox); have n2_ := Aside0.mk ((by rw [hg]; exact (below_size (by repeat (first | (with_reducible first | exact HB.out | apply below_alloc | apply pw_below_drewN | apply below_drew1) | exact HB.out))) : w.heap.size ≤ gb340)); have n3_ := Aside0.mk ((by rw [hg]; exact (below_size (by repeat (first | (with_reducible first | exact HB.out | apply below_alloc | apply pw_below_drewN | apply below_drew1) | exact HB.out))) : w.heap.size ≤ gb340)); clear HB; have HB := n0_; have BK340 := n1_; have GW340 := n2_; have GE340 := n3_; clear n0_ n1_ n2_ n3_; clear hb hbox hg; have hcz22_0 : w21.cell? ⟨gb340, 0, none⟩ = some (.string (⟨#[]⟩ : ByteArray)) := (blk_cell BK340.out 0).trans rfl; have hcz22_1 : w21.cell? ⟨gb340, 1, none⟩ = some (.int .i64 0) := (blk_cell BK340.out 1).trans rfl; have hcz22_2 : w21.cell? ⟨gb340, 2, none⟩ = some (.string (⟨#[]⟩ : ByteArray)) := (blk_cell BK340.out 2).trans rfl; have hfz22_0 := blk_frozen BK340.out 0; have hfz22_1 := blk_frozen BK340.out 1; have hfz22_2 := blk_frozen BK340.out 2) | (go_at_call 104; (with_reducible refine (spec_NameFault.calls k1 ((rd_T132 l0 x3_1).f0) t341 _ A5.out).mono ?_); rintro e w' ⟨rfl, ⟨nd, rfl⟩⟩; (try first | exact ⟨rfl, _, World.drewN_drewN _ _ _⟩ | exact ⟨rfl, _, Eq.trans (World.drewN_drewN _ _ _) (congrArg (World.drewN _) (Nat.add_assoc _ _ _))⟩)) | (go_at_call 77; (with_reducible refine (spec_l1In.calls ((rd_T132 l0 x3_1).f1) 1 3 true _ A7.out).mono ?_); rintro e w' ⟨rfl, ⟨nd, rfl⟩⟩; (try first | exact ⟨rfl, _, World.drewN_drewN _ _ _⟩ | exact ⟨rfl, _, Eq.trans (World.drewN_drewN _ _ _) (congrArg (World.drewN _) (Nat.add_assoc _ _ _))⟩)) | (go_at_call 76; (with_reducible refine (spec_l6Is.calls k1 ((rd_T132 l0 x3_1).f2) 2 true _ A10.out).mono ?_); rintro e w' ⟨rfl, ⟨nd, rfl⟩⟩; (try first | exact ⟨rfl, _, World.drewN_drewN _ _ _⟩ | exact ⟨rfl, _, Eq.trans (World.drewN_drewN _ _ _) (congrArg (World.drewN _) (Nat.add_assoc _ _ _))⟩))))
           go_roundg k1
           case measure => have := HK1.out; omega
           case rel => exact ⟨(wrap64 (x3_1 + 1)), (by first | rfl | (simp; done) | (simp [*]; done)), H', ⟨by have := HK1.out; omega⟩, ⟨by repeat (first | (with_reducible first | exact HB.out | apply below_alloc | apply pw_below_drewN | apply below_drew1 | refine below_set ?_ GE340.out) | exact HB.out)⟩⟩
         ·
          replace c11 := Bool.eq_false_iff.mpr c11
          subst c11
          have H1 : (some 1) = some r := by rw [if_neg (show ¬ (false = true) by decide)] at H; exact H
          clear H
          have H := H1
          clear H1
          obtain rfl := Option.some.inj H
          have p339 : 0 ≤ (x3_1 : Int) := of_decide_eq_true (by first | (with_reducible assumption) | assumption)
          have q339 : x3_1 < (l0.length : Int) := of_decide_eq_true (by first | (with_reducible assumption) | assumption)
          obtain ⟨ad339, e339, hx339_0, hx339_1, hx339_2⟩ := at_T132 HR0.out x3_1 p339 q339
          cases e339
          replace hx339_0 := (HB.out.cell (World.block_lt_of_cell? w _ hx339_0)).trans hx339_0
          replace hx339_1 := (HB.out.cell (World.block_lt_of_cell? w _ hx339_1)).trans hx339_1
          replace hx339_2 := (HB.out.cell (World.block_lt_of_cell? w _ hx339_2)).trans hx339_2
          replace p339 := eq_true p339
          replace q339 := eq_true q339
          go_wp2_with (first | ((with_reducible refine gate_dst (N := 4) rfl ?_); refine box_event ?hg (N := 4) ?hd (cs := #[.string (⟨#[]⟩ : ByteArray), .int .i64 0, .string (⟨#[]⟩ : ByteArray)]) (t := 132) ?hr ?_; (case hd => rfl); (case hg => rfl); (case hr => first | (go_simp; done) | (go_simp; rfl)); intro gb340 hg w23 hbox hb; have n0_ := Aside0.mk (below_step (by repeat (first | (with_reducible first | exact HB.out | apply below_alloc | apply pw_below_drewN | apply below_drew1) | exact HB.out)) hb); have n1_ := Aside0.mk (hbox); have n2_ := Aside0.mk ((by rw [hg]; exact (below_size (by repeat (first | (with_reducible first | exact HB.out | apply below_alloc | apply pw_below_drewN | apply below_drew1) | exact HB.out))) : w.heap.size ≤ gb340)); have n3_ := Aside0.mk ((by rw [hg]; exact (below_size (by repeat (first | (with_reducible first | exact HB.out | apply below_alloc | apply pw_below_drewN | apply below_drew1) | exact HB.out))) : w.heap.size ≤ gb340)); clear HB; have HB := n0_; have BK340 := n1_; have GW340 := n2_; have GE340 := n3_; clear n0_ n1_ n2_ n3_; clear hb hbox hg; have hcz24_0 : w23.cell? ⟨gb340, 0, none⟩ = some (.string (⟨#[]⟩ : ByteArray)) := (blk_cell BK340.out 0).trans rfl; have hcz24_1 : w23.cell? ⟨gb340, 1, none⟩ = some (.int .i64 0) := (blk_cell BK340.out 1).trans rfl; have hcz24_2 : w23.cell? ⟨gb340, 2, none⟩ = some (.string (⟨#[]⟩ : ByteArray)) := (blk_cell BK340.out 2).trans rfl; have hfz24_0 := blk_frozen BK340.out 0; have hfz24_1 := blk_frozen BK340.out 1; have hfz24_2 := blk_frozen BK340.out 2) | (go_at_call 104; (with_reducible refine (spec_NameFault.calls k1 ((rd_T132 l0 x3_1).f0) t341 _ A5.out).mono ?_); rintro e w' ⟨rfl, ⟨nd, rfl⟩⟩; (try first | exact ⟨rfl, _, World.drewN_drewN _ _ _⟩ | exact ⟨rfl, _, Eq.trans (World.drewN_drewN _ _ _) (congrArg (World.drewN _) (Nat.add_assoc _ _ _))⟩)) | (go_at_call 77; (with_reducible refine (spec_l1In.calls ((rd_T132 l0 x3_1).f1) 1 3 true _ A7.out).mono ?_); rintro e w' ⟨rfl, ⟨nd, rfl⟩⟩; (try first | exact ⟨rfl, _, World.drewN_drewN _ _ _⟩ | exact ⟨rfl, _, Eq.trans (World.drewN_drewN _ _ _) (congrArg (World.drewN _) (Nat.add_assoc _ _ _))⟩)) | (go_at_call 76; (with_reducible refine (spec_l6Is.calls k1 ((rd_T132 l0 x3_1).f2) 2 false _ A10.out).mono ?_); rintro e w' ⟨rfl, ⟨nd, rfl⟩⟩; (try first | exact ⟨rfl, _, World.drewN_drewN _ _ _⟩ | exact ⟨rfl, _, Eq.trans (World.drewN_drewN _ _ _) (congrArg (World.drewN _) (Nat.add_assoc _ _ _))⟩)))
          repeat (go_quiet (first | ((with_reducible refine gate_dst (N := 4) rfl ?_); refine box_event ?hg (N := 4) ?hd (cs := #[.string (⟨#[]⟩ : ByteArray), .int .i64 0, .string (⟨#[]⟩ : ByteArray)]) (t := 132) ?hr ?_; (case hd => rfl); (case hg => rfl); (case hr => first | (go_simp; done) | (go_simp; rfl)); intro gb340 hg w23 hbox hb; have n0_ := Aside0.mk (below_step (by repeat (first | (with_reducible first | exact HB.out | apply below_alloc | apply pw_below_drewN | apply below_drew1) | exact HB.out)) hb); have n1_ := Aside0.mk (hbox); have n2_ := Aside0.mk ((by rw [hg]; exact (below_size (by repeat (first | (with_reducible first | exact HB.out | apply below_alloc | apply pw_below_drewN | apply below_drew1) | exact HB.out))) : w.heap.size ≤ gb340)); have n3_ := Aside0.mk ((by rw [hg]; exact (below_size (by repeat (first | (with_reducible first | exact HB.out | apply below_alloc | apply pw_below_drewN | apply below_drew1) | exact HB.out))) : w.heap.size ≤ gb340)); clear HB; have HB := n0_; have BK340 := n1_; have GW340 := n2_; have GE340 := n3_; clear n0_ n1_ n2_ n3_; clear hb hbox hg; have hcz24_0 : w23.cell? ⟨gb340, 0, none⟩ = some (.string (⟨#[]⟩ : ByteArray)) := (blk_cell BK340.out 0).trans rfl; have hcz24_1 : w23.cell? ⟨gb340, 1, none⟩ = some (.int .i64 0) := (blk_cell BK340.out 1).trans rfl; have hcz24_2 : w23.cell? ⟨gb340, 2, none⟩ = some (.string (⟨#[]⟩ : ByteArray)) := (blk_cell BK340.out 2).trans rfl; have hfz24_0 := blk_frozen BK340.out 0; have hfz24_1 := blk_frozen BK340.out 1; have hfz24_2 := blk_frozen BK340.out 2) | (go_at_call 104; (with_reducible refine (spec_NameFault.calls k1 ((rd_T132 l0 x3_1).f0) t341 _ A5.out).mono ?_); rintro e w' ⟨rfl, ⟨nd, rfl⟩⟩; (try first | exact ⟨rfl, _, World.drewN_drewN _ _ _⟩ | exact ⟨rfl, _, Eq.trans (World.drewN_drewN _ _ _) (congrArg (World.drewN _) (Nat.add_assoc _ _ _))⟩)) | (go_at_call 77; (with_reducible refine (spec_l1In.calls ((rd_T132 l0 x3_1).f1) 1 3 true _ A7.out).mono ?_); rintro e w' ⟨rfl, ⟨nd, rfl⟩⟩; (try first | exact ⟨rfl, _, World.drewN_drewN _ _ _⟩ | exact ⟨rfl, _, Eq.trans (World.drewN_drewN _ _ _) (congrArg (World.drewN _) (Nat.add_assoc _ _ _))⟩)) | (go_at_call 76; (with_reducible refine (spec_l6Is.calls k1 ((rd_T132 l0 x3_1).f2) 2 false _ A10.out).mono ?_); rintro e w' ⟨rfl, ⟨nd, rfl⟩⟩; (try first | exact ⟨rfl, _, World.drewN_drewN _ _ _⟩ | exact ⟨rfl, _, Eq.trans (World.drewN_drewN _ _ _) (congrArg (World.drewN _) (Nat.add_assoc _ _ _))⟩))); try go_wp2_with (first | ((with_reducible refine gate_dst (N := 4) rfl ?_); refine box_event ?hg (N := 4) ?hd (cs := #[.string (⟨#[]⟩ : ByteArray), .int .i64 0, .string (⟨#[]⟩ : ByteArray)]) (t := 132) ?hr ?_; (case hd => rfl); (case hg => rfl); (case hr => first | (go_simp; done) | (go_simp; rfl)); intro gb340 hg w23 hbox hb; have n0_ := Aside0.mk (below_step (by repeat (first | (with_reducible first | exact HB.out | apply below_alloc | apply pw_below_drewN | apply below_drew1) | exact HB.out)) hb); have n1_ := Aside0.mk (hbox); have n2_ := Aside0.mk ((by rw [hg]; exact (below_size (by repeat (first | (with_reducible first | exact HB.out | apply below_alloc | apply pw_below_drewN | apply below_drew1) | exact HB.out))) : w.heap.size ≤ gb340)); have n3_ := Aside0.mk ((by rw [hg]; exact (below_size (by repeat (first | (with_reducible first | exact HB.out | apply below_alloc | apply pw_below_drewN | apply below_drew1) | exact HB.out))) : w.heap.size ≤ gb340)); clear HB; have HB := n0_; have BK340 := n1_; have GW340 := n2_; have GE340 := n3_; clear n0_ n1_ n2_ n3_; clear hb hbox hg; have hcz24_0 : w23.cell? ⟨gb340, 0, none⟩ = some (.string (⟨#[]⟩ : ByteArray)) := (blk_cell BK340.out 0).trans rfl; have hcz24_1 : w23.cell? ⟨gb340, 1, none⟩ = some (.int .i64 0) := (blk_cell BK340.out 1).trans rfl; have hcz24_2 : w23.cell? ⟨gb340, 2, none⟩ = some (.string (⟨#[]⟩ : ByteArray)) := (blk_cell BK340.out 2).trans rfl; have hfz24_0 := blk_frozen BK340.out 0; have hfz24_1 := blk_frozen BK340.out 1; have hfz24_2 := blk_frozen BK340.out 2) | (go_at_call 104; (with_reducible refine (spec_NameFault.calls k1 ((rd_T132 l0 x3_1).f0) t341 _ A5.out).mono ?_); rintro e w' ⟨rfl, ⟨nd, rfl⟩⟩; (try first | exact ⟨rfl, _, World.drewN_drewN _ _ _⟩ | exact ⟨rfl, _, Eq.trans (World.drewN_drewN _ _ _) (congrArg (World.drewN _) (Nat.add_assoc _ _ _))⟩)) | (go_at_call 77; (with_reducible refine (spec_l1In.calls ((rd_T132 l0 x3_1).f1) 1 3 true _ A7.out).mono ?_); rintro e w' ⟨rfl, ⟨nd, rfl⟩⟩; (try first | exact ⟨rfl, _, World.drewN_drewN _ _ _⟩ | exact ⟨rfl, _, Eq.trans (World.drewN_drewN _ _ _) (congrArg (World.drewN _) (Nat.add_assoc _ _ _))⟩)) | (go_at_call 76; (with_reducible refine (spec_l6Is.calls k1 ((rd_T132 l0 x3_1).f2) 2 false _ A10.out).mono ?_); rintro e w' ⟨rfl, ⟨nd, rfl⟩⟩; (try first | exact ⟨rfl, _, World.drewN_drewN _ _ _⟩ | exact ⟨rfl, _, Eq.trans (World.drewN_drewN _ _ _) (congrArg (World.drewN _) (Nat.add_assoc _ _ _))⟩))))
          go_ret
          exact ⟨by first | rfl | (simp [errW_none, errW_some] <;> rfl) | (simp [*, errW_none, errW_some] <;> rfl), by repeat (first | (with_reducible first | exact HB.out | apply below_alloc | apply pw_below_drewN | apply below_drew1 | refine below_set ?_ GE340.out) | exact HB.out)⟩
        ·
         rw [if_neg c9] at H
         have c9b0 : (((rd_T132 l0 x3_1).f1) == 3) = false := beq_eq_false_iff_ne.mpr c9
         have c9b1 : (((rd_T132 l0 x3_1).f1) != 3) = true := bne_iff_ne.mpr c9
         replace H := Option.bind_eq_some_iff.mp H
         obtain ⟨t345, A250, H⟩ := H
         replace H : (if t345 = true then (if x3_1 > 0 then (if 0 ≤ (wrap64 (x3_1 - 1)) then (if (wrap64 (x3_1 - 1)) < (l0.length : Int) then (if ((Op.bytesLess (((rd_T132 l0 (wrap64 (x3_1 - 1))).f0).toList) (((rd_T132 l0 x3_1).f0).toList)) = true) then (spec_TreeFault.l0 k1 l0 (wrap64 (x3_1 + 1))) else (some 1)) else (none)) else (none)) else (spec_TreeFault.l0 k1 l0 (wrap64 (x3_1 + 1)))) else (some 1)) = some r := H
         have A25 := Aside0.mk A250
         clear A250
         by_cases c26 : t345 = true
         ·
          subst c26
          have H1 : (if x3_1 > 0 then (if 0 ≤ (wrap64 (x3_1 - 1)) then (if (wrap64 (x3_1 - 1)) < (l0.length : Int) then (if ((Op.bytesLess (((rd_T132 l0 (wrap64 (x3_1 - 1))).f0).toList) (((rd_T132 l0 x3_1).f0).toList)) = true) then (spec_TreeFault.l0 k1 l0 (wrap64 (x3_1 + 1))) else (some 1)) else (none)) else (none)) else (spec_TreeFault.l0 k1 l0 (wrap64 (x3_1 + 1)))) = some r := by rw [if_pos rfl] at H; exact H
          clear H
          have H := H1
          clear H1
          by_cases c27 : x3_1 > 0
          ·
           rw [if_pos c27] at H
           have c27b0 : decide (0 < x3_1) = true := decide_eq_true c27
           clear c27
           obtain ⟨ji28, hji28⟩ : ∃ j_ : Int, (wrap64 (x3_1 - 1)) = j_ := ⟨_, rfl⟩
           replace H : (if 0 ≤ (ji28) then (if (ji28) < (l0.length : Int) then (if ((Op.bytesLess (((rd_T132 l0 (ji28)).f0).toList) (((rd_T132 l0 x3_1).f0).toList)) = true) then (spec_TreeFault.l0 k1 l0 (wrap64 (x3_1 + 1))) else (some 1)) else (none)) else (none)) = some r := by first | (rw [hji28] at H; exact H) | (simp only [hji28] at H ⊢; exact H)
           (try rw [hji28] at A5)
           (try rw [hji28] at A7)
           (try rw [hji28] at A25)
           have hji28w : (IntKind.i64.wrap (x3_1 - 1)) = ji28 := (i64_w _).trans hji28
           by_cases c29 : 0 ≤ (ji28)
           ·
            rw [if_pos c29] at H
            have c29b0 : decide (0 ≤ (ji28)) = true := decide_eq_true c29
            clear c29
            by_cases c30 : (ji28) < (l0.length : Int)
            ·
             rw [if_pos c30] at H
             have c30b0 : decide ((ji28) < (l0.length : Int)) = true := decide_eq_true c30
             clear c30
             by_cases c31 : ((Op.bytesLess (((rd_T132 l0 (ji28)).f0).toList) (((rd_T132 l0 x3_1).f0).toList)) = true)
             ·
              rw [if_pos c31] at H
              have c31b0 : (Op.bytesLess (((rd_T132 l0 (ji28)).f0).toList) (((rd_T132 l0 x3_1).f0).toList)) = true := c31
              clear c31
              have H' := Aside0.mk H
              clear H
              have p339 : 0 ≤ (x3_1 : Int) := of_decide_eq_true (by first | (with_reducible assumption) | assumption)
              have q339 : x3_1 < (l0.length : Int) := of_decide_eq_true (by first | (with_reducible assumption) | assumption)
              obtain ⟨ad339, e339, hx339_0, hx339_1, hx339_2⟩ := at_T132 HR0.out x3_1 p339 q339
              cases e339
              replace hx339_0 := (HB.out.cell (World.block_lt_of_cell? w _ hx339_0)).trans hx339_0
              replace hx339_1 := (HB.out.cell (World.block_lt_of_cell? w _ hx339_1)).trans hx339_1
              replace hx339_2 := (HB.out.cell (World.block_lt_of_cell? w _ hx339_2)).trans hx339_2
              replace p339 := eq_true p339
              replace q339 := eq_true q339
              go_wp2_with (first | ((with_reducible refine gate_dst (N := 4) rfl ?_); refine box_event ?hg (N := 4) ?hd (cs := #[.string (⟨#[]⟩ : ByteArray), .int .i64 0, .string (⟨#[]⟩ : ByteArray)]) (t := 132) ?hr ?_; (case hd => rfl); (case hg => rfl); (case hr => first | (go_simp; done) | (go_simp; rfl)); intro gb340 hg w32 hbox hb; have n0_ := Aside0.mk (below_step (by repeat (first | (with_reducible first | exact HB.out | apply below_alloc | apply pw_below_drewN | apply below_drew1) | exact HB.out)) hb); have n1_ := Aside0.mk (hbox); have n2_ := Aside0.mk ((by rw [hg]; exact (below_size (by repeat (first | (with_reducible first | exact HB.out | apply below_alloc | apply pw_below_drewN | apply below_drew1) | exact HB.out))) : w.heap.size ≤ gb340)); have n3_ := Aside0.mk ((by rw [hg]; exact (below_size (by repeat (first | (with_reducible first | exact HB.out | apply below_alloc | apply pw_below_drewN | apply below_drew1) | exact HB.out))) : w.heap.size ≤ gb340)); clear HB; have HB := n0_; have BK340 := n1_; have GW340 := n2_; have GE340 := n3_; clear n0_ n1_ n2_ n3_; clear hb hbox hg; have hcz33_0 : w32.cell? ⟨gb340, 0, none⟩ = some (.string (⟨#[]⟩ : ByteArray)) := (blk_cell BK340.out 0).trans rfl; have hcz33_1 : w32.cell? ⟨gb340, 1, none⟩ = some (.int .i64 0) := (blk_cell BK340.out 1).trans rfl; have hcz33_2 : w32.cell? ⟨gb340, 2, none⟩ = some (.string (⟨#[]⟩ : ByteArray)) := (blk_cell BK340.out 2).trans rfl; have hfz33_0 := blk_frozen BK340.out 0; have hfz33_1 := blk_frozen BK340.out 1; have hfz33_2 := blk_frozen BK340.out 2) | (go_at_call 104; (with_reducible refine (spec_NameFault.calls k1 ((rd_T132 l0 x3_1).f0) t341 _ A5.out).mono ?_); rintro e w' ⟨rfl, ⟨nd, rfl⟩⟩; (try first | exact ⟨rfl, _, World.drewN_drewN _ _ _⟩ | exact ⟨rfl, _, Eq.trans (World.drewN_drewN _ _ _) (congrArg (World.drewN _) (Nat.add_assoc _ _ _))⟩)) | (go_at_call 77; (with_reducible refine (spec_l1In.calls ((rd_T132 l0 x3_1).f1) 1 3 true _ A7.out).mono ?_); rintro e w' ⟨rfl, ⟨nd, rfl⟩⟩; (try first | exact ⟨rfl, _, World.drewN_drewN _ _ _⟩ | exact ⟨rfl, _, Eq.trans (World.drewN_drewN _ _ _) (congrArg (World.drewN _) (Nat.add_assoc _ _ _))⟩)) | (go_at_call 76; (with_reducible refine (spec_l6Is.calls k1 ((rd_T132 l0 x3_1).f2) 1 true _ A25.out).mono ?_); rintro e w' ⟨rfl, ⟨nd, rfl⟩⟩; (try first | exact ⟨rfl, _, World.drewN_drewN _ _ _⟩ | exact ⟨rfl, _, Eq.trans (World.drewN_drewN _ _ _) (congrArg (World.drewN _) (Nat.add_assoc _ _ _))⟩); have p346 : 0 ≤ ((ji28) : Int) := of_decide_eq_true (by first | (with_reducible assumption) | assumption); have q346 : (ji28) < (l0.length : Int) := of_decide_eq_true (by first | (with_reducible assumption) | assumption); obtain ⟨ad346, e346, hx346_0, hx346_1, hx346_2⟩ := at_T132 HR0.out (ji28) p346 q346; obtain rfl : ad339 = ad346 := (by injection e346); have hn346_0 : ad339.block ≠ gb340 := Nat.ne_of_lt (Nat.lt_of_lt_of_le (by have := World.block_lt_of_cell? _ _ hx346_0; first | rwa [add_block] at this | exact this) GW340.out); have hn346_1 : ad339.block ≠ gb340 := Nat.ne_of_lt (Nat.lt_of_lt_of_le (by have := World.block_lt_of_cell? _ _ hx346_0; first | rwa [add_block] at this | exact this) GW340.out); have hn346_2 : ad339.block ≠ gb340 := Nat.ne_of_lt (Nat.lt_of_lt_of_le (by have := World.block_lt_of_cell? _ _ hx346_0; first | rwa [add_block] at this | exact this) GW340.out); replace hx346_0 := (HB.out.cell (World.block_lt_of_cell? w _ hx346_0)).trans hx346_0; replace hx346_1 := (HB.out.cell (World.block_lt_of_cell? w _ hx346_1)).trans hx346_1; replace hx346_2 := (HB.out.cell (World.block_lt_of_cell? w _ hx346_2)).trans hx346_2; replace hx346_0 := (cell_far (p := ⟨gb340, 0, none⟩) (by first | (rw [add_block]; exact hn346_0) | (show (Addr.add _ _).block ≠ _; rw [add_block]; exact hn346_0) | exact hn346_0) (.string ((rd_T132 l0 x3_1).f0))).trans hx346_0; replace hx346_1 := (cell_far (p := ⟨gb340, 0, none⟩) (by first | (rw [add_block]; exact hn346_0) | (show (Addr.add _ _).block ≠ _; rw [add_block]; exact hn346_0) | exact hn346_0) (.string ((rd_T132 l0 x3_1).f0))).trans hx346_1; replace hx346_2 := (cell_far (p := ⟨gb340, 0, none⟩) (by first | (rw [add_block]; exact hn346_0) | (show (Addr.add _ _).block ≠ _; rw [add_block]; exact hn346_0) | exact hn346_0) (.string ((rd_T132 l0 x3_1).f0))).trans hx346_2; replace hx346_0 := (cell_far (p := ⟨gb340, 1, none⟩) (by first | (rw [add_block]; exact hn346_1) | (show (Addr.add _ _).block ≠ _; rw [add_block]; exact hn346_1) | exact hn346_1) (.int .i64 ((rd_T132 l0 x3_1).f1))).trans hx346_0; replace hx346_1 := (cell_far (p := ⟨gb340, 1, none⟩) (by first | (rw [add_block]; exact hn346_1) | (show (Addr.add _ _).block ≠ _; rw [add_block]; exact hn346_1) | exact hn346_1) (.int .i64 ((rd_T132 l0 x3_1).f1))).trans hx346_1; replace hx346_2 := (cell_far (p := ⟨gb340, 1, none⟩) (by first | (rw [add_block]; exact hn346_1) | (show (Addr.add _ _).block ≠ _; rw [add_block]; exact hn346_1) | exact hn346_1) (.int .i64 ((rd_T132 l0 x3_1).f1))).trans hx346_2; replace hx346_0 := (cell_far (p := ⟨gb340, 2, none⟩) (by first | (rw [add_block]; exact hn346_2) | (show (Addr.add _ _).block ≠ _; rw [add_block]; exact hn346_2) | exact hn346_2) (.string ((rd_T132 l0 x3_1).f2))).trans hx346_0; replace hx346_1 := (cell_far (p := ⟨gb340, 2, none⟩) (by first | (rw [add_block]; exact hn346_2) | (show (Addr.add _ _).block ≠ _; rw [add_block]; exact hn346_2) | exact hn346_2) (.string ((rd_T132 l0 x3_1).f2))).trans hx346_1; replace hx346_2 := (cell_far (p := ⟨gb340, 2, none⟩) (by first | (rw [add_block]; exact hn346_2) | (show (Addr.add _ _).block ≠ _; rw [add_block]; exact hn346_2) | exact hn346_2) (.string ((rd_T132 l0 x3_1).f2))).trans hx346_2; (try have hy346_0 := fun (n_ : Nat) => (show (((((w32.drewN n_).setCell ⟨gb340, 0, none⟩ (.string ((rd_T132 l0 x3_1).f0))).setCell ⟨gb340, 1, none⟩ (.int .i64 ((rd_T132 l0 x3_1).f1))).setCell ⟨gb340, 2, none⟩ (.string ((rd_T132 l0 x3_1).f2)))).cell? _ = some _ from hx346_0)); (try have hy346_1 := fun (n_ : Nat) => (show (((((w32.drewN n_).setCell ⟨gb340, 0, none⟩ (.string ((rd_T132 l0 x3_1).f0))).setCell ⟨gb340, 1, none⟩ (.int .i64 ((rd_T132 l0 x3_1).f1))).setCell ⟨gb340, 2, none⟩ (.string ((rd_T132 l0 x3_1).f2)))).cell? _ = some _ from hx346_1)); (try have hy346_2 := fun (n_ : Nat) => (show (((((w32.drewN n_).setCell ⟨gb340, 0, none⟩ (.string ((rd_T132 l0 x3_1).f0))).setCell ⟨gb340, 1, none⟩ (.int .i64 ((rd_T132 l0 x3_1).f1))).setCell ⟨gb340, 2, none⟩ (.string ((rd_T132 l0 x3_1).f2)))).cell? _ = some _ from hx346_2)); clear hn346_0; clear hn346_1; clear hn346_2; replace p346 := eq_true p346; replace q346 := eq_true q346))
              repeat (go_quiet (first | ((with_reducible refine gate_dst (N := 4) rfl ?_); refine box_event ?hg (N := 4) ?hd (cs := #[.string (⟨#[]⟩ : ByteArray), .int .i64 0, .string (⟨#[]⟩ : ByteArray)]) (t := 132) ?hr ?_; (case hd => rfl); (case hg => rfl); (case hr => first | (go_simp; done) | (go_simp; rfl)); intro gb340 hg w32 hbox hb; have n0_ := Aside0.mk (below_step (by repeat (first | (with_reducible first | exact HB.out | apply below_alloc | apply pw_below_drewN | apply below_drew1) | exact HB.out)) hb); have n1_ := Aside0.mk (hbox); have n2_ := Aside0.mk ((by rw [hg]; exact (below_size (by repeat (first | (with_reducible first | exact HB.out | apply below_alloc | apply pw_below_drewN | apply below_drew1) | exact HB.out))) : w.heap.size ≤ gb340)); have n3_ := Aside0.mk ((by rw [hg]; exact (below_size (by repeat (first | (with_reducible first | exact HB.out | apply below_alloc | apply pw_below_drewN | apply below_drew1) | exact HB.out))) : w.heap.size ≤ gb340)); clear HB; have HB := n0_; have BK340 := n1_; have GW340 := n2_; have GE340 := n3_; clear n0_ n1_ n2_ n3_; clear hb hbox hg; have hcz33_0 : w32.cell? ⟨gb340, 0, none⟩ = some (.string (⟨#[]⟩ : ByteArray)) := (blk_cell BK340.out 0).trans rfl; have hcz33_1 : w32.cell? ⟨gb340, 1, none⟩ = some (.int .i64 0) := (blk_cell BK340.out 1).trans rfl; have hcz33_2 : w32.cell? ⟨gb340, 2, none⟩ = some (.string (⟨#[]⟩ : ByteArray)) := (blk_cell BK340.out 2).trans rfl; have hfz33_0 := blk_frozen BK340.out 0; have hfz33_1 := blk_frozen BK340.out 1; have hfz33_2 := blk_frozen BK340.out 2) | (go_at_call 104; (with_reducible refine (spec_NameFault.calls k1 ((rd_T132 l0 x3_1).f0) t341 _ A5.out).mono ?_); rintro e w' ⟨rfl, ⟨nd, rfl⟩⟩; (try first | exact ⟨rfl, _, World.drewN_drewN _ _ _⟩ | exact ⟨rfl, _, Eq.trans (World.drewN_drewN _ _ _) (congrArg (World.drewN _) (Nat.add_assoc _ _ _))⟩)) | (go_at_call 77; (with_reducible refine (spec_l1In.calls ((rd_T132 l0 x3_1).f1) 1 3 true _ A7.out).mono ?_); rintro e w' ⟨rfl, ⟨nd, rfl⟩⟩; (try first | exact ⟨rfl, _, World.drewN_drewN _ _ _⟩ | exact ⟨rfl, _, Eq.trans (World.drewN_drewN _ _ _) (congrArg (World.drewN _) (Nat.add_assoc _ _ _))⟩)) | (go_at_call 76; (with_reducible refine (spec_l6Is.calls k1 ((rd_T132 l0 x3_1).f2) 1 true _ A25.out).mono ?_); rintro e w' ⟨rfl, ⟨nd, rfl⟩⟩; (try first | exact ⟨rfl, _, World.drewN_drewN _ _ _⟩ | exact ⟨rfl, _, Eq.trans (World.drewN_drewN _ _ _) (congrArg (World.drewN _) (Nat.add_assoc _ _ _))⟩); have p346 : 0 ≤ ((ji28) : Int) := of_decide_eq_true (by first | (with_reducible assumption) | assumption); have q346 : (ji28) < (l0.length : Int) := of_decide_eq_true (by first | (with_reducible assumption) | assumption); obtain ⟨ad346, e346, hx346_0, hx346_1, hx346_2⟩ := at_T132 HR0.out (ji28) p346 q346; obtain rfl : ad339 = ad346 := (by injection e346); have hn346_0 : ad339.block ≠ gb340 := Nat.ne_of_lt (Nat.lt_of_lt_of_le (by have := World.block_lt_of_cell? _ _ hx346_0; first | rwa [add_block] at this | exact this) GW340.out); have hn346_1 : ad339.block ≠ gb340 := Nat.ne_of_lt (Nat.lt_of_lt_of_le (by have := World.block_lt_of_cell? _ _ hx346_0; first | rwa [add_block] at this | exact this) GW340.out); have hn346_2 : ad339.block ≠ gb340 := Nat.ne_of_lt (Nat.lt_of_lt_of_le (by have := World.block_lt_of_cell? _ _ hx346_0; first | rwa [add_block] at this | exact this) GW340.out); replace hx346_0 := (HB.out.cell (World.block_lt_of_cell? w _ hx346_0)).trans hx346_0; replace hx346_1 := (HB.out.cell (World.block_lt_of_cell? w _ hx346_1)).trans hx346_1; replace hx346_2 := (HB.out.cell (World.block_lt_of_cell? w _ hx346_2)).trans hx346_2; replace hx346_0 := (cell_far (p := ⟨gb340, 0, none⟩) (by first | (rw [add_block]; exact hn346_0) | (show (Addr.add _ _).block ≠ _; rw [add_block]; exact hn346_0) | exact hn346_0) (.string ((rd_T132 l0 x3_1).f0))).trans hx346_0; replace hx346_1 := (cell_far (p := ⟨gb340, 0, none⟩) (by first | (rw [add_block]; exact hn346_0) | (show (Addr.add _ _).block ≠ _; rw [add_block]; exact hn346_0) | exact hn346_0) (.string ((rd_T132 l0 x3_1).f0))).trans hx346_1; replace hx346_2 := (cell_far (p := ⟨gb340, 0, none⟩) (by first | (rw [add_block]; exact hn346_0) | (show (Addr.add _ _).block ≠ _; rw [add_block]; exact hn346_0) | exact hn346_0) (.string ((rd_T132 l0 x3_1).f0))).trans hx346_2; replace hx346_0 := (cell_far (p := ⟨gb340, 1, none⟩) (by first | (rw [add_block]; exact hn346_1) | (show (Addr.add _ _).block ≠ _; rw [add_block]; exact hn346_1) | exact hn346_1) (.int .i64 ((rd_T132 l0 x3_1).f1))).trans hx346_0; replace hx346_1 := (cell_far (p := ⟨gb340, 1, none⟩) (by first | (rw [add_block]; exact hn346_1) | (show (Addr.add _ _).block ≠ _; rw [add_block]; exact hn346_1) | exact hn346_1) (.int .i64 ((rd_T132 l0 x3_1).f1))).trans hx346_1; replace hx346_2 := (cell_far (p := ⟨gb340, 1, none⟩) (by first | (rw [add_block]; exact hn346_1) | (show (Addr.add _ _).block ≠ _; rw [add_block]; exact hn346_1) | exact hn346_1) (.int .i64 ((rd_T132 l0 x3_1).f1))).trans hx346_2; replace hx346_0 := (cell_far (p := ⟨gb340, 2, none⟩) (by first | (rw [add_block]; exact hn346_2) | (show (Addr.add _ _).block ≠ _; rw [add_block]; exact hn346_2) | exact hn346_2) (.string ((rd_T132 l0 x3_1).f2))).trans hx346_0; replace hx346_1 := (cell_far (p := ⟨gb340, 2, none⟩) (by first | (rw [add_block]; exact hn346_2) | (show (Addr.add _ _).block ≠ _; rw [add_block]; exact hn346_2) | exact hn346_2) (.string ((rd_T132 l0 x3_1).f2))).trans hx346_1; replace hx346_2 := (cell_far (p := ⟨gb340, 2, none⟩) (by first | (rw [add_block]; exact hn346_2) | (show (Addr.add _ _).block ≠ _; rw [add_block]; exact hn346_2) | exact hn346_2) (.string ((rd_T132 l0 x3_1).f2))).trans hx346_2; (try have hy346_0 := fun (n_ : Nat) => (show (((((w32.drewN n_).setCell ⟨gb340, 0, none⟩ (.string ((rd_T132 l0 x3_1).f0))).setCell ⟨gb340, 1, none⟩ (.int .i64 ((rd_T132 l0 x3_1).f1))).setCell ⟨gb340, 2, none⟩ (.string ((rd_T132 l0 x3_1).f2)))).cell? _ = some _ from hx346_0)); (try have hy346_1 := fun (n_ : Nat) => (show (((((w32.drewN n_).setCell ⟨gb340, 0, none⟩ (.string ((rd_T132 l0 x3_1).f0))).setCell ⟨gb340, 1, none⟩ (.int .i64 ((rd_T132 l0 x3_1).f1))).setCell ⟨gb340, 2, none⟩ (.string ((rd_T132 l0 x3_1).f2)))).cell? _ = some _ from hx346_1)); (try have hy346_2 := fun (n_ : Nat) => (show (((((w32.drewN n_).setCell ⟨gb340, 0, none⟩ (.string ((rd_T132 l0 x3_1).f0))).setCell ⟨gb340, 1, none⟩ (.int .i64 ((rd_T132 l0 x3_1).f1))).setCell ⟨gb340, 2, none⟩ (.string ((rd_T132 l0 x3_1).f2)))).cell? _ = some _ from hx346_2)); clear hn346_0; clear hn346_1; clear hn346_2; replace p346 := eq_true p346; replace q346 := eq_true q346)); try go_wp2_with (first | ((with_reducible refine gate_dst (N := 4) rfl ?_); refine box_event ?hg (N := 4) ?hd (cs := #[.string (⟨#[]⟩ : ByteArray), .int .i64 0, .string (⟨#[]⟩ : ByteArray)]) (t := 132) ?hr ?_; (case hd => rfl); (case hg => rfl); (case hr => first | (go_simp; done) | (go_simp; rfl)); intro gb340 hg w32 hbox hb; have n0_ := Aside0.mk (below_step (by repeat (first | (with_reducible first | exact HB.out | apply below_alloc | apply pw_below_drewN | apply below_drew1) | exact HB.out)) hb); have n1_ := Aside0.mk (hbox); have n2_ := Aside0.mk ((by rw [hg]; exact (below_size (by repeat (first | (with_reducible first | exact HB.out | apply below_alloc | apply pw_below_drewN | apply below_drew1) | exact HB.out))) : w.heap.size ≤ gb340)); have n3_ := Aside0.mk ((by rw [hg]; exact (below_size (by repeat (first | (with_reducible first | exact HB.out | apply below_alloc | apply pw_below_drewN | apply below_drew1) | exact HB.out))) : w.heap.size ≤ gb340)); clear HB; have HB := n0_; have BK340 := n1_; have GW340 := n2_; have GE340 := n3_; clear n0_ n1_ n2_ n3_; clear hb hbox hg; have hcz33_0 : w32.cell? ⟨gb340, 0, none⟩ = some (.string (⟨#[]⟩ : ByteArray)) := (blk_cell BK340.out 0).trans rfl; have hcz33_1 : w32.cell? ⟨gb340, 1, none⟩ = some (.int .i64 0) := (blk_cell BK340.out 1).trans rfl; have hcz33_2 : w32.cell? ⟨gb340, 2, none⟩ = some (.string (⟨#[]⟩ : ByteArray)) := (blk_cell BK340.out 2).trans rfl; have hfz33_0 := blk_frozen BK340.out 0; have hfz33_1 := blk_frozen BK340.out 1; have hfz33_2 := blk_frozen BK340.out 2) | (go_at_call 104; (with_reducible refine (spec_NameFault.calls k1 ((rd_T132 l0 x3_1).f0) t341 _ A5.out).mono ?_); rintro e w' ⟨rfl, ⟨nd, rfl⟩⟩; (try first | exact ⟨rfl, _, World.drewN_drewN _ _ _⟩ | exact ⟨rfl, _, Eq.trans (World.drewN_drewN _ _ _) (congrArg (World.drewN _) (Nat.add_assoc _ _ _))⟩)) | (go_at_call 77; (with_reducible refine (spec_l1In.calls ((rd_T132 l0 x3_1).f1) 1 3 true _ A7.out).mono ?_); rintro e w' ⟨rfl, ⟨nd, rfl⟩⟩; (try first | exact ⟨rfl, _, World.drewN_drewN _ _ _⟩ | exact ⟨rfl, _, Eq.trans (World.drewN_drewN _ _ _) (congrArg (World.drewN _) (Nat.add_assoc _ _ _))⟩)) | (go_at_call 76; (with_reducible refine (spec_l6Is.calls k1 ((rd_T132 l0 x3_1).f2) 1 true _ A25.out).mono ?_); rintro e w' ⟨rfl, ⟨nd, rfl⟩⟩; (try first | exact ⟨rfl, _, World.drewN_drewN _ _ _⟩ | exact ⟨rfl, _, Eq.trans (World.drewN_drewN _ _ _) (congrArg (World.drewN _) (Nat.add_assoc _ _ _))⟩); have p346 : 0 ≤ ((ji28) : Int) := of_decide_eq_true (by first | (with_reducible assumption) | assumption); have q346 : (ji28) < (l0.length : Int) := of_decide_eq_true (by first | (with_reducible assumption) | assumption); obtain ⟨ad346, e346, hx346_0, hx346_1, hx346_2⟩ := at_T132 HR0.out (ji28) p346 q346; obtain rfl : ad339 = ad346 := (by injection e346); have hn346_0 : ad339.block ≠ gb340 := Nat.ne_of_lt (Nat.lt_of_lt_of_le (by have := World.block_lt_of_cell? _ _ hx346_0; first | rwa [add_block] at this | exact this) GW340.out); have hn346_1 : ad339.block ≠ gb340 := Nat.ne_of_lt (Nat.lt_of_lt_of_le (by have := World.block_lt_of_cell? _ _ hx346_0; first | rwa [add_block] at this | exact this) GW340.out); have hn346_2 : ad339.block ≠ gb340 := Nat.ne_of_lt (Nat.lt_of_lt_of_le (by have := World.block_lt_of_cell? _ _ hx346_0; first | rwa [add_block] at this | exact this) GW340.out); replace hx346_0 := (HB.out.cell (World.block_lt_of_cell? w _ hx346_0)).trans hx346_0; replace hx346_1 := (HB.out.cell (World.block_lt_of_cell? w _ hx346_1)).trans hx346_1; replace hx346_2 := (HB.out.cell (World.block_lt_of_cell? w _ hx346_2)).trans hx346_2; replace hx346_0 := (cell_far (p := ⟨gb340, 0, none⟩) (by first | (rw [add_block]; exact hn346_0) | (show (Addr.add _ _).block ≠ _; rw [add_block]; exact hn346_0) | exact hn346_0) (.string ((rd_T132 l0 x3_1).f0))).trans hx346_0; replace hx346_1 := (cell_far (p := ⟨gb340, 0, none⟩) (by first | (rw [add_block]; exact hn346_0) | (show (Addr.add _ _).block ≠ _; rw [add_block]; exact hn346_0) | exact hn346_0) (.string ((rd_T132 l0 x3_1).f0))).trans hx346_1; replace hx346_2 := (cell_far (p := ⟨gb340, 0, none⟩) (by first | (rw [add_block]; exact hn346_0) | (show (Addr.add _ _).block ≠ _; rw [add_block]; exact hn346_0) | exact hn346_0) (.string ((rd_T132 l0 x3_1).f0))).trans hx346_2; replace hx346_0 := (cell_far (p := ⟨gb340, 1, none⟩) (by first | (rw [add_block]; exact hn346_1) | (show (Addr.add _ _).block ≠ _; rw [add_block]; exact hn346_1) | exact hn346_1) (.int .i64 ((rd_T132 l0 x3_1).f1))).trans hx346_0; replace hx346_1 := (cell_far (p := ⟨gb340, 1, none⟩) (by first | (rw [add_block]; exact hn346_1) | (show (Addr.add _ _).block ≠ _; rw [add_block]; exact hn346_1) | exact hn346_1) (.int .i64 ((rd_T132 l0 x3_1).f1))).trans hx346_1; replace hx346_2 := (cell_far (p := ⟨gb340, 1, none⟩) (by first | (rw [add_block]; exact hn346_1) | (show (Addr.add _ _).block ≠ _; rw [add_block]; exact hn346_1) | exact hn346_1) (.int .i64 ((rd_T132 l0 x3_1).f1))).trans hx346_2; replace hx346_0 := (cell_far (p := ⟨gb340, 2, none⟩) (by first | (rw [add_block]; exact hn346_2) | (show (Addr.add _ _).block ≠ _; rw [add_block]; exact hn346_2) | exact hn346_2) (.string ((rd_T132 l0 x3_1).f2))).trans hx346_0; replace hx346_1 := (cell_far (p := ⟨gb340, 2, none⟩) (by first | (rw [add_block]; exact hn346_2) | (show (Addr.add _ _).block ≠ _; rw [add_block]; exact hn346_2) | exact hn346_2) (.string ((rd_T132 l0 x3_1).f2))).trans hx346_1; replace hx346_2 := (cell_far (p := ⟨gb340, 2, none⟩) (by first | (rw [add_block]; exact hn346_2) | (show (Addr.add _ _).block ≠ _; rw [add_block]; exact hn346_2) | exact hn346_2) (.string ((rd_T132 l0 x3_1).f2))).trans hx346_2; (try have hy346_0 := fun (n_ : Nat) => (show (((((w32.drewN n_).setCell ⟨gb340, 0, none⟩ (.string ((rd_T132 l0 x3_1).f0))).setCell ⟨gb340, 1, none⟩ (.int .i64 ((rd_T132 l0 x3_1).f1))).setCell ⟨gb340, 2, none⟩ (.string ((rd_T132 l0 x3_1).f2)))).cell? _ = some _ from hx346_0)); (try have hy346_1 := fun (n_ : Nat) => (show (((((w32.drewN n_).setCell ⟨gb340, 0, none⟩ (.string ((rd_T132 l0 x3_1).f0))).setCell ⟨gb340, 1, none⟩ (.int .i64 ((rd_T132 l0 x3_1).f1))).setCell ⟨gb340, 2, none⟩ (.string ((rd_T132 l0 x3_1).f2)))).cell? _ = some _ from hx346_1)); (try have hy346_2 := fun (n_ : Nat) => (show (((((w32.drewN n_).setCell ⟨gb340, 0, none⟩ (.string ((rd_T132 l0 x3_1).f0))).setCell ⟨gb340, 1, none⟩ (.int .i64 ((rd_T132 l0 x3_1).f1))).setCell ⟨gb340, 2, none⟩ (.string ((rd_T132 l0 x3_1).f2)))).cell? _ = some _ from hx346_2)); clear hn346_0; clear hn346_1; clear hn346_2; replace p346 := eq_true p346; replace q346 := eq_true q346)))
              go_roundg k1
              case measure => have := HK1.out; omega
              case rel => exact ⟨(wrap64 (x3_1 + 1)), (by first | rfl | (simp; done) | (simp [*]; done)), H', ⟨by have := HK1.out; omega⟩, ⟨by repeat (first | (with_reducible first | exact HB.out | apply below_alloc | apply pw_below_drewN | apply below_drew1 | refine below_set ?_ GE340.out) | exact HB.out)⟩⟩
             ·
              rw [if_neg c31] at H
              have c31b0 : (Op.bytesLess (((rd_T132 l0 (ji28)).f0).toList) (((rd_T132 l0 x3_1).f0).toList)) = false := by simpa using c31
              clear c31
              obtain rfl := Option.some.inj H
              have p339 : 0 ≤ (x3_1 : Int) := of_decide_eq_true (by first | (with_reducible assumption) | assumption)
              have q339 : x3_1 < (l0.length : Int) := of_decide_eq_true (by first | (with_reducible assumption) | assumption)
              obtain ⟨ad339, e339, hx339_0, hx339_1, hx339_2⟩ := at_T132 HR0.out x3_1 p339 q339
              cases e339
              replace hx339_0 := (HB.out.cell (World.block_lt_of_cell? w _ hx339_0)).trans hx339_0
              replace hx339_1 := (HB.out.cell (World.block_lt_of_cell? w _ hx339_1)).trans hx339_1
              replace hx339_2 := (HB.out.cell (World.block_lt_of_cell? w _ hx339_2)).trans hx339_2
              replace p339 := eq_true p339
              replace q339 := eq_true q339
              go_wp2_with (first | ((with_reducible refine gate_dst (N := 4) rfl ?_); refine box_event ?hg (N := 4) ?hd (cs := #[.string (⟨#[]⟩ : ByteArray), .int .i64 0, .string (⟨#[]⟩ : ByteArray)]) (t := 132) ?hr ?_; (case hd => rfl); (case hg => rfl); (case hr => first | (go_simp; done) | (go_simp; rfl)); intro gb340 hg w34 hbox hb; have n0_ := Aside0.mk (below_step (by repeat (first | (with_reducible first | exact HB.out | apply below_alloc | apply pw_below_drewN | apply below_drew1) | exact HB.out)) hb); have n1_ := Aside0.mk (hbox); have n2_ := Aside0.mk ((by rw [hg]; exact (below_size (by repeat (first | (with_reducible first | exact HB.out | apply below_alloc | apply pw_below_drewN | apply below_drew1) | exact HB.out))) : w.heap.size ≤ gb340)); have n3_ := Aside0.mk ((by rw [hg]; exact (below_size (by repeat (first | (with_reducible first | exact HB.out | apply below_alloc | apply pw_below_drewN | apply below_drew1) | exact HB.out))) : w.heap.size ≤ gb340)); clear HB; have HB := n0_; have BK340 := n1_; have GW340 := n2_; have GE340 := n3_; clear n0_ n1_ n2_ n3_; clear hb hbox hg; have hcz35_0 : w34.cell? ⟨gb340, 0, none⟩ = some (.string (⟨#[]⟩ : ByteArray)) := (blk_cell BK340.out 0).trans rfl; have hcz35_1 : w34.cell? ⟨gb340, 1, none⟩ = some (.int .i64 0) := (blk_cell BK340.out 1).trans rfl; have hcz35_2 : w34.cell? ⟨gb340, 2, none⟩ = some (.string (⟨#[]⟩ : ByteArray)) := (blk_cell BK340.out 2).trans rfl; have hfz35_0 := blk_frozen BK340.out 0; have hfz35_1 := blk_frozen BK340.out 1; have hfz35_2 := blk_frozen BK340.out 2) | (go_at_call 104; (with_reducible refine (spec_NameFault.calls k1 ((rd_T132 l0 x3_1).f0) t341 _ A5.out).mono ?_); rintro e w' ⟨rfl, ⟨nd, rfl⟩⟩; (try first | exact ⟨rfl, _, World.drewN_drewN _ _ _⟩ | exact ⟨rfl, _, Eq.trans (World.drewN_drewN _ _ _) (congrArg (World.drewN _) (Nat.add_assoc _ _ _))⟩)) | (go_at_call 77; (with_reducible refine (spec_l1In.calls ((rd_T132 l0 x3_1).f1) 1 3 true _ A7.out).mono ?_); rintro e w' ⟨rfl, ⟨nd, rfl⟩⟩; (try first | exact ⟨rfl, _, World.drewN_drewN _ _ _⟩ | exact ⟨rfl, _, Eq.trans (World.drewN_drewN _ _ _) (congrArg (World.drewN _) (Nat.add_assoc _ _ _))⟩)) | (go_at_call 76; (with_reducible refine (spec_l6Is.calls k1 ((rd_T132 l0 x3_1).f2) 1 true _ A25.out).mono ?_); rintro e w' ⟨rfl, ⟨nd, rfl⟩⟩; (try first | exact ⟨rfl, _, World.drewN_drewN _ _ _⟩ | exact ⟨rfl, _, Eq.trans (World.drewN_drewN _ _ _) (congrArg (World.drewN _) (Nat.add_assoc _ _ _))⟩); have p346 : 0 ≤ ((ji28) : Int) := of_decide_eq_true (by first | (with_reducible assumption) | assumption); have q346 : (ji28) < (l0.length : Int) := of_decide_eq_true (by first | (with_reducible assumption) | assumption); obtain ⟨ad346, e346, hx346_0, hx346_1, hx346_2⟩ := at_T132 HR0.out (ji28) p346 q346; obtain rfl : ad339 = ad346 := (by injection e346); have hn346_0 : ad339.block ≠ gb340 := Nat.ne_of_lt (Nat.lt_of_lt_of_le (by have := World.block_lt_of_cell? _ _ hx346_0; first | rwa [add_block] at this | exact this) GW340.out); have hn346_1 : ad339.block ≠ gb340 := Nat.ne_of_lt (Nat.lt_of_lt_of_le (by have := World.block_lt_of_cell? _ _ hx346_0; first | rwa [add_block] at this | exact this) GW340.out); have hn346_2 : ad339.block ≠ gb340 := Nat.ne_of_lt (Nat.lt_of_lt_of_le (by have := World.block_lt_of_cell? _ _ hx346_0; first | rwa [add_block] at this | exact this) GW340.out); replace hx346_0 := (HB.out.cell (World.block_lt_of_cell? w _ hx346_0)).trans hx346_0; replace hx346_1 := (HB.out.cell (World.block_lt_of_cell? w _ hx346_1)).trans hx346_1; replace hx346_2 := (HB.out.cell (World.block_lt_of_cell? w _ hx346_2)).trans hx346_2; replace hx346_0 := (cell_far (p := ⟨gb340, 0, none⟩) (by first | (rw [add_block]; exact hn346_0) | (show (Addr.add _ _).block ≠ _; rw [add_block]; exact hn346_0) | exact hn346_0) (.string ((rd_T132 l0 x3_1).f0))).trans hx346_0; replace hx346_1 := (cell_far (p := ⟨gb340, 0, none⟩) (by first | (rw [add_block]; exact hn346_0) | (show (Addr.add _ _).block ≠ _; rw [add_block]; exact hn346_0) | exact hn346_0) (.string ((rd_T132 l0 x3_1).f0))).trans hx346_1; replace hx346_2 := (cell_far (p := ⟨gb340, 0, none⟩) (by first | (rw [add_block]; exact hn346_0) | (show (Addr.add _ _).block ≠ _; rw [add_block]; exact hn346_0) | exact hn346_0) (.string ((rd_T132 l0 x3_1).f0))).trans hx346_2; replace hx346_0 := (cell_far (p := ⟨gb340, 1, none⟩) (by first | (rw [add_block]; exact hn346_1) | (show (Addr.add _ _).block ≠ _; rw [add_block]; exact hn346_1) | exact hn346_1) (.int .i64 ((rd_T132 l0 x3_1).f1))).trans hx346_0; replace hx346_1 := (cell_far (p := ⟨gb340, 1, none⟩) (by first | (rw [add_block]; exact hn346_1) | (show (Addr.add _ _).block ≠ _; rw [add_block]; exact hn346_1) | exact hn346_1) (.int .i64 ((rd_T132 l0 x3_1).f1))).trans hx346_1; replace hx346_2 := (cell_far (p := ⟨gb340, 1, none⟩) (by first | (rw [add_block]; exact hn346_1) | (show (Addr.add _ _).block ≠ _; rw [add_block]; exact hn346_1) | exact hn346_1) (.int .i64 ((rd_T132 l0 x3_1).f1))).trans hx346_2; replace hx346_0 := (cell_far (p := ⟨gb340, 2, none⟩) (by first | (rw [add_block]; exact hn346_2) | (show (Addr.add _ _).block ≠ _; rw [add_block]; exact hn346_2) | exact hn346_2) (.string ((rd_T132 l0 x3_1).f2))).trans hx346_0; replace hx346_1 := (cell_far (p := ⟨gb340, 2, none⟩) (by first | (rw [add_block]; exact hn346_2) | (show (Addr.add _ _).block ≠ _; rw [add_block]; exact hn346_2) | exact hn346_2) (.string ((rd_T132 l0 x3_1).f2))).trans hx346_1; replace hx346_2 := (cell_far (p := ⟨gb340, 2, none⟩) (by first | (rw [add_block]; exact hn346_2) | (show (Addr.add _ _).block ≠ _; rw [add_block]; exact hn346_2) | exact hn346_2) (.string ((rd_T132 l0 x3_1).f2))).trans hx346_2; (try have hy346_0 := fun (n_ : Nat) => (show (((((w34.drewN n_).setCell ⟨gb340, 0, none⟩ (.string ((rd_T132 l0 x3_1).f0))).setCell ⟨gb340, 1, none⟩ (.int .i64 ((rd_T132 l0 x3_1).f1))).setCell ⟨gb340, 2, none⟩ (.string ((rd_T132 l0 x3_1).f2)))).cell? _ = some _ from hx346_0)); (try have hy346_1 := fun (n_ : Nat) => (show (((((w34.drewN n_).setCell ⟨gb340, 0, none⟩ (.string ((rd_T132 l0 x3_1).f0))).setCell ⟨gb340, 1, none⟩ (.int .i64 ((rd_T132 l0 x3_1).f1))).setCell ⟨gb340, 2, none⟩ (.string ((rd_T132 l0 x3_1).f2)))).cell? _ = some _ from hx346_1)); (try have hy346_2 := fun (n_ : Nat) => (show (((((w34.drewN n_).setCell ⟨gb340, 0, none⟩ (.string ((rd_T132 l0 x3_1).f0))).setCell ⟨gb340, 1, none⟩ (.int .i64 ((rd_T132 l0 x3_1).f1))).setCell ⟨gb340, 2, none⟩ (.string ((rd_T132 l0 x3_1).f2)))).cell? _ = some _ from hx346_2)); clear hn346_0; clear hn346_1; clear hn346_2; replace p346 := eq_true p346; replace q346 := eq_true q346))
              repeat (go_quiet (first | ((with_reducible refine gate_dst (N := 4) rfl ?_); refine box_event ?hg (N := 4) ?hd (cs := #[.string (⟨#[]⟩ : ByteArray), .int .i64 0, .string (⟨#[]⟩ : ByteArray)]) (t := 132) ?hr ?_; (case hd => rfl); (case hg => rfl); (case hr => first | (go_simp; done) | (go_simp; rfl)); intro gb340 hg w34 hbox hb; have n0_ := Aside0.mk (below_step (by repeat (first | (with_reducible first | exact HB.out | apply below_alloc | apply pw_below_drewN | apply below_drew1) | exact HB.out)) hb); have n1_ := Aside0.mk (hbox); have n2_ := Aside0.mk ((by rw [hg]; exact (below_size (by repeat (first | (with_reducible first | exact HB.out | apply below_alloc | apply pw_below_drewN | apply below_drew1) | exact HB.out))) : w.heap.size ≤ gb340)); have n3_ := Aside0.mk ((by rw [hg]; exact (below_size (by repeat (first | (with_reducible first | exact HB.out | apply below_alloc | apply pw_below_drewN | apply below_drew1) | exact HB.out))) : w.heap.size ≤ gb340)); clear HB; have HB := n0_; have BK340 := n1_; have GW340 := n2_; have GE340 := n3_; clear n0_ n1_ n2_ n3_; clear hb hbox hg; have hcz35_0 : w34.cell? ⟨gb340, 0, none⟩ = some (.string (⟨#[]⟩ : ByteArray)) := (blk_cell BK340.out 0).trans rfl; have hcz35_1 : w34.cell? ⟨gb340, 1, none⟩ = some (.int .i64 0) := (blk_cell BK340.out 1).trans rfl; have hcz35_2 : w34.cell? ⟨gb340, 2, none⟩ = some (.string (⟨#[]⟩ : ByteArray)) := (blk_cell BK340.out 2).trans rfl; have hfz35_0 := blk_frozen BK340.out 0; have hfz35_1 := blk_frozen BK340.out 1; have hfz35_2 := blk_frozen BK340.out 2) | (go_at_call 104; (with_reducible refine (spec_NameFault.calls k1 ((rd_T132 l0 x3_1).f0) t341 _ A5.out).mono ?_); rintro e w' ⟨rfl, ⟨nd, rfl⟩⟩; (try first | exact ⟨rfl, _, World.drewN_drewN _ _ _⟩ | exact ⟨rfl, _, Eq.trans (World.drewN_drewN _ _ _) (congrArg (World.drewN _) (Nat.add_assoc _ _ _))⟩)) | (go_at_call 77; (with_reducible refine (spec_l1In.calls ((rd_T132 l0 x3_1).f1) 1 3 true _ A7.out).mono ?_); rintro e w' ⟨rfl, ⟨nd, rfl⟩⟩; (try first | exact ⟨rfl, _, World.drewN_drewN _ _ _⟩ | exact ⟨rfl, _, Eq.trans (World.drewN_drewN _ _ _) (congrArg (World.drewN _) (Nat.add_assoc _ _ _))⟩)) | (go_at_call 76; (with_reducible refine (spec_l6Is.calls k1 ((rd_T132 l0 x3_1).f2) 1 true _ A25.out).mono ?_); rintro e w' ⟨rfl, ⟨nd, rfl⟩⟩; (try first | exact ⟨rfl, _, World.drewN_drewN _ _ _⟩ | exact ⟨rfl, _, Eq.trans (World.drewN_drewN _ _ _) (congrArg (World.drewN _) (Nat.add_assoc _ _ _))⟩); have p346 : 0 ≤ ((ji28) : Int) := of_decide_eq_true (by first | (with_reducible assumption) | assumption); have q346 : (ji28) < (l0.length : Int) := of_decide_eq_true (by first | (with_reducible assumption) | assumption); obtain ⟨ad346, e346, hx346_0, hx346_1, hx346_2⟩ := at_T132 HR0.out (ji28) p346 q346; obtain rfl : ad339 = ad346 := (by injection e346); have hn346_0 : ad339.block ≠ gb340 := Nat.ne_of_lt (Nat.lt_of_lt_of_le (by have := World.block_lt_of_cell? _ _ hx346_0; first | rwa [add_block] at this | exact this) GW340.out); have hn346_1 : ad339.block ≠ gb340 := Nat.ne_of_lt (Nat.lt_of_lt_of_le (by have := World.block_lt_of_cell? _ _ hx346_0; first | rwa [add_block] at this | exact this) GW340.out); have hn346_2 : ad339.block ≠ gb340 := Nat.ne_of_lt (Nat.lt_of_lt_of_le (by have := World.block_lt_of_cell? _ _ hx346_0; first | rwa [add_block] at this | exact this) GW340.out); replace hx346_0 := (HB.out.cell (World.block_lt_of_cell? w _ hx346_0)).trans hx346_0; replace hx346_1 := (HB.out.cell (World.block_lt_of_cell? w _ hx346_1)).trans hx346_1; replace hx346_2 := (HB.out.cell (World.block_lt_of_cell? w _ hx346_2)).trans hx346_2; replace hx346_0 := (cell_far (p := ⟨gb340, 0, none⟩) (by first | (rw [add_block]; exact hn346_0) | (show (Addr.add _ _).block ≠ _; rw [add_block]; exact hn346_0) | exact hn346_0) (.string ((rd_T132 l0 x3_1).f0))).trans hx346_0; replace hx346_1 := (cell_far (p := ⟨gb340, 0, none⟩) (by first | (rw [add_block]; exact hn346_0) | (show (Addr.add _ _).block ≠ _; rw [add_block]; exact hn346_0) | exact hn346_0) (.string ((rd_T132 l0 x3_1).f0))).trans hx346_1; replace hx346_2 := (cell_far (p := ⟨gb340, 0, none⟩) (by first | (rw [add_block]; exact hn346_0) | (show (Addr.add _ _).block ≠ _; rw [add_block]; exact hn346_0) | exact hn346_0) (.string ((rd_T132 l0 x3_1).f0))).trans hx346_2; replace hx346_0 := (cell_far (p := ⟨gb340, 1, none⟩) (by first | (rw [add_block]; exact hn346_1) | (show (Addr.add _ _).block ≠ _; rw [add_block]; exact hn346_1) | exact hn346_1) (.int .i64 ((rd_T132 l0 x3_1).f1))).trans hx346_0; replace hx346_1 := (cell_far (p := ⟨gb340, 1, none⟩) (by first | (rw [add_block]; exact hn346_1) | (show (Addr.add _ _).block ≠ _; rw [add_block]; exact hn346_1) | exact hn346_1) (.int .i64 ((rd_T132 l0 x3_1).f1))).trans hx346_1; replace hx346_2 := (cell_far (p := ⟨gb340, 1, none⟩) (by first | (rw [add_block]; exact hn346_1) | (show (Addr.add _ _).block ≠ _; rw [add_block]; exact hn346_1) | exact hn346_1) (.int .i64 ((rd_T132 l0 x3_1).f1))).trans hx346_2; replace hx346_0 := (cell_far (p := ⟨gb340, 2, none⟩) (by first | (rw [add_block]; exact hn346_2) | (show (Addr.add _ _).block ≠ _; rw [add_block]; exact hn346_2) | exact hn346_2) (.string ((rd_T132 l0 x3_1).f2))).trans hx346_0; replace hx346_1 := (cell_far (p := ⟨gb340, 2, none⟩) (by first | (rw [add_block]; exact hn346_2) | (show (Addr.add _ _).block ≠ _; rw [add_block]; exact hn346_2) | exact hn346_2) (.string ((rd_T132 l0 x3_1).f2))).trans hx346_1; replace hx346_2 := (cell_far (p := ⟨gb340, 2, none⟩) (by first | (rw [add_block]; exact hn346_2) | (show (Addr.add _ _).block ≠ _; rw [add_block]; exact hn346_2) | exact hn346_2) (.string ((rd_T132 l0 x3_1).f2))).trans hx346_2; (try have hy346_0 := fun (n_ : Nat) => (show (((((w34.drewN n_).setCell ⟨gb340, 0, none⟩ (.string ((rd_T132 l0 x3_1).f0))).setCell ⟨gb340, 1, none⟩ (.int .i64 ((rd_T132 l0 x3_1).f1))).setCell ⟨gb340, 2, none⟩ (.string ((rd_T132 l0 x3_1).f2)))).cell? _ = some _ from hx346_0)); (try have hy346_1 := fun (n_ : Nat) => (show (((((w34.drewN n_).setCell ⟨gb340, 0, none⟩ (.string ((rd_T132 l0 x3_1).f0))).setCell ⟨gb340, 1, none⟩ (.int .i64 ((rd_T132 l0 x3_1).f1))).setCell ⟨gb340, 2, none⟩ (.string ((rd_T132 l0 x3_1).f2)))).cell? _ = some _ from hx346_1)); (try have hy346_2 := fun (n_ : Nat) => (show (((((w34.drewN n_).setCell ⟨gb340, 0, none⟩ (.string ((rd_T132 l0 x3_1).f0))).setCell ⟨gb340, 1, none⟩ (.int .i64 ((rd_T132 l0 x3_1).f1))).setCell ⟨gb340, 2, none⟩ (.string ((rd_T132 l0 x3_1).f2)))).cell? _ = some _ from hx346_2)); clear hn346_0; clear hn346_1; clear hn346_2; replace p346 := eq_true p346; replace q346 := eq_true q346)); try go_wp2_with (first | ((with_reducible refine gate_dst (N := 4) rfl ?_); refine box_event ?hg (N := 4) ?hd (cs := #[.string (⟨#[]⟩ : ByteArray), .int .i64 0, .string (⟨#[]⟩ : ByteArray)]) (t := 132) ?hr ?_; (case hd => rfl); (case hg => rfl); (case hr => first | (go_simp; done) | (go_simp; rfl)); intro gb340 hg w34 hbox hb; have n0_ := Aside0.mk (below_step (by repeat (first | (with_reducible first | exact HB.out | apply below_alloc | apply pw_below_drewN | apply below_drew1) | exact HB.out)) hb); have n1_ := Aside0.mk (hbox); have n2_ := Aside0.mk ((by rw [hg]; exact (below_size (by repeat (first | (with_reducible first | exact HB.out | apply below_alloc | apply pw_below_drewN | apply below_drew1) | exact HB.out))) : w.heap.size ≤ gb340)); have n3_ := Aside0.mk ((by rw [hg]; exact (below_size (by repeat (first | (with_reducible first | exact HB.out | apply below_alloc | apply pw_below_drewN | apply below_drew1) | exact HB.out))) : w.heap.size ≤ gb340)); clear HB; have HB := n0_; have BK340 := n1_; have GW340 := n2_; have GE340 := n3_; clear n0_ n1_ n2_ n3_; clear hb hbox hg; have hcz35_0 : w34.cell? ⟨gb340, 0, none⟩ = some (.string (⟨#[]⟩ : ByteArray)) := (blk_cell BK340.out 0).trans rfl; have hcz35_1 : w34.cell? ⟨gb340, 1, none⟩ = some (.int .i64 0) := (blk_cell BK340.out 1).trans rfl; have hcz35_2 : w34.cell? ⟨gb340, 2, none⟩ = some (.string (⟨#[]⟩ : ByteArray)) := (blk_cell BK340.out 2).trans rfl; have hfz35_0 := blk_frozen BK340.out 0; have hfz35_1 := blk_frozen BK340.out 1; have hfz35_2 := blk_frozen BK340.out 2) | (go_at_call 104; (with_reducible refine (spec_NameFault.calls k1 ((rd_T132 l0 x3_1).f0) t341 _ A5.out).mono ?_); rintro e w' ⟨rfl, ⟨nd, rfl⟩⟩; (try first | exact ⟨rfl, _, World.drewN_drewN _ _ _⟩ | exact ⟨rfl, _, Eq.trans (World.drewN_drewN _ _ _) (congrArg (World.drewN _) (Nat.add_assoc _ _ _))⟩)) | (go_at_call 77; (with_reducible refine (spec_l1In.calls ((rd_T132 l0 x3_1).f1) 1 3 true _ A7.out).mono ?_); rintro e w' ⟨rfl, ⟨nd, rfl⟩⟩; (try first | exact ⟨rfl, _, World.drewN_drewN _ _ _⟩ | exact ⟨rfl, _, Eq.trans (World.drewN_drewN _ _ _) (congrArg (World.drewN _) (Nat.add_assoc _ _ _))⟩)) | (go_at_call 76; (with_reducible refine (spec_l6Is.calls k1 ((rd_T132 l0 x3_1).f2) 1 true _ A25.out).mono ?_); rintro e w' ⟨rfl, ⟨nd, rfl⟩⟩; (try first | exact ⟨rfl, _, World.drewN_drewN _ _ _⟩ | exact ⟨rfl, _, Eq.trans (World.drewN_drewN _ _ _) (congrArg (World.drewN _) (Nat.add_assoc _ _ _))⟩); have p346 : 0 ≤ ((ji28) : Int) := of_decide_eq_true (by first | (with_reducible assumption) | assumption); have q346 : (ji28) < (l0.length : Int) := of_decide_eq_true (by first | (with_reducible assumption) | assumption); obtain ⟨ad346, e346, hx346_0, hx346_1, hx346_2⟩ := at_T132 HR0.out (ji28) p346 q346; obtain rfl : ad339 = ad346 := (by injection e346); have hn346_0 : ad339.block ≠ gb340 := Nat.ne_of_lt (Nat.lt_of_lt_of_le (by have := World.block_lt_of_cell? _ _ hx346_0; first | rwa [add_block] at this | exact this) GW340.out); have hn346_1 : ad339.block ≠ gb340 := Nat.ne_of_lt (Nat.lt_of_lt_of_le (by have := World.block_lt_of_cell? _ _ hx346_0; first | rwa [add_block] at this | exact this) GW340.out); have hn346_2 : ad339.block ≠ gb340 := Nat.ne_of_lt (Nat.lt_of_lt_of_le (by have := World.block_lt_of_cell? _ _ hx346_0; first | rwa [add_block] at this | exact this) GW340.out); replace hx346_0 := (HB.out.cell (World.block_lt_of_cell? w _ hx346_0)).trans hx346_0; replace hx346_1 := (HB.out.cell (World.block_lt_of_cell? w _ hx346_1)).trans hx346_1; replace hx346_2 := (HB.out.cell (World.block_lt_of_cell? w _ hx346_2)).trans hx346_2; replace hx346_0 := (cell_far (p := ⟨gb340, 0, none⟩) (by first | (rw [add_block]; exact hn346_0) | (show (Addr.add _ _).block ≠ _; rw [add_block]; exact hn346_0) | exact hn346_0) (.string ((rd_T132 l0 x3_1).f0))).trans hx346_0; replace hx346_1 := (cell_far (p := ⟨gb340, 0, none⟩) (by first | (rw [add_block]; exact hn346_0) | (show (Addr.add _ _).block ≠ _; rw [add_block]; exact hn346_0) | exact hn346_0) (.string ((rd_T132 l0 x3_1).f0))).trans hx346_1; replace hx346_2 := (cell_far (p := ⟨gb340, 0, none⟩) (by first | (rw [add_block]; exact hn346_0) | (show (Addr.add _ _).block ≠ _; rw [add_block]; exact hn346_0) | exact hn346_0) (.string ((rd_T132 l0 x3_1).f0))).trans hx346_2; replace hx346_0 := (cell_far (p := ⟨gb340, 1, none⟩) (by first | (rw [add_block]; exact hn346_1) | (show (Addr.add _ _).block ≠ _; rw [add_block]; exact hn346_1) | exact hn346_1) (.int .i64 ((rd_T132 l0 x3_1).f1))).trans hx346_0; replace hx346_1 := (cell_far (p := ⟨gb340, 1, none⟩) (by first | (rw [add_block]; exact hn346_1) | (show (Addr.add _ _).block ≠ _; rw [add_block]; exact hn346_1) | exact hn346_1) (.int .i64 ((rd_T132 l0 x3_1).f1))).trans hx346_1; replace hx346_2 := (cell_far (p := ⟨gb340, 1, none⟩) (by first | (rw [add_block]; exact hn346_1) | (show (Addr.add _ _).block ≠ _; rw [add_block]; exact hn346_1) | exact hn346_1) (.int .i64 ((rd_T132 l0 x3_1).f1))).trans hx346_2; replace hx346_0 := (cell_far (p := ⟨gb340, 2, none⟩) (by first | (rw [add_block]; exact hn346_2) | (show (Addr.add _ _).block ≠ _; rw [add_block]; exact hn346_2) | exact hn346_2) (.string ((rd_T132 l0 x3_1).f2))).trans hx346_0; replace hx346_1 := (cell_far (p := ⟨gb340, 2, none⟩) (by first | (rw [add_block]; exact hn346_2) | (show (Addr.add _ _).block ≠ _; rw [add_block]; exact hn346_2) | exact hn346_2) (.string ((rd_T132 l0 x3_1).f2))).trans hx346_1; replace hx346_2 := (cell_far (p := ⟨gb340, 2, none⟩) (by first | (rw [add_block]; exact hn346_2) | (show (Addr.add _ _).block ≠ _; rw [add_block]; exact hn346_2) | exact hn346_2) (.string ((rd_T132 l0 x3_1).f2))).trans hx346_2; (try have hy346_0 := fun (n_ : Nat) => (show (((((w34.drewN n_).setCell ⟨gb340, 0, none⟩ (.string ((rd_T132 l0 x3_1).f0))).setCell ⟨gb340, 1, none⟩ (.int .i64 ((rd_T132 l0 x3_1).f1))).setCell ⟨gb340, 2, none⟩ (.string ((rd_T132 l0 x3_1).f2)))).cell? _ = some _ from hx346_0)); (try have hy346_1 := fun (n_ : Nat) => (show (((((w34.drewN n_).setCell ⟨gb340, 0, none⟩ (.string ((rd_T132 l0 x3_1).f0))).setCell ⟨gb340, 1, none⟩ (.int .i64 ((rd_T132 l0 x3_1).f1))).setCell ⟨gb340, 2, none⟩ (.string ((rd_T132 l0 x3_1).f2)))).cell? _ = some _ from hx346_1)); (try have hy346_2 := fun (n_ : Nat) => (show (((((w34.drewN n_).setCell ⟨gb340, 0, none⟩ (.string ((rd_T132 l0 x3_1).f0))).setCell ⟨gb340, 1, none⟩ (.int .i64 ((rd_T132 l0 x3_1).f1))).setCell ⟨gb340, 2, none⟩ (.string ((rd_T132 l0 x3_1).f2)))).cell? _ = some _ from hx346_2)); clear hn346_0; clear hn346_1; clear hn346_2; replace p346 := eq_true p346; replace q346 := eq_true q346)))
              go_ret
              exact ⟨by first | rfl | (simp [errW_none, errW_some] <;> rfl) | (simp only [← hji28]; first | rfl | (simp [errW_none, errW_some] <;> rfl)) | (simp [*, errW_none, errW_some] <;> rfl), by repeat (first | (with_reducible first | exact HB.out | apply below_alloc | apply pw_below_drewN | apply below_drew1 | refine below_set ?_ GE340.out) | exact HB.out)⟩
            ·
             rw [if_neg c30] at H
             exact absurd H (by simp)
           ·
            rw [if_neg c29] at H
            exact absurd H (by simp)
          ·
           rw [if_neg c27] at H
           have c27b0 : decide (0 < x3_1) = false := decide_eq_false c27
           clear c27
           have H' := Aside0.mk H
           clear H
           have p339 : 0 ≤ (x3_1 : Int) := of_decide_eq_true (by first | (with_reducible assumption) | assumption)
           have q339 : x3_1 < (l0.length : Int) := of_decide_eq_true (by first | (with_reducible assumption) | assumption)
           obtain ⟨ad339, e339, hx339_0, hx339_1, hx339_2⟩ := at_T132 HR0.out x3_1 p339 q339
           cases e339
           replace hx339_0 := (HB.out.cell (World.block_lt_of_cell? w _ hx339_0)).trans hx339_0
           replace hx339_1 := (HB.out.cell (World.block_lt_of_cell? w _ hx339_1)).trans hx339_1
           replace hx339_2 := (HB.out.cell (World.block_lt_of_cell? w _ hx339_2)).trans hx339_2
           replace p339 := eq_true p339
           replace q339 := eq_true q339
           go_wp2_with (first | ((with_reducible refine gate_dst (N := 4) rfl ?_); refine box_event ?hg (N := 4) ?hd (cs := #[.string (⟨#[]⟩ : ByteArray), .int .i64 0, .string (⟨#[]⟩ : ByteArray)]) (t := 132) ?hr ?_; (case hd => rfl); (case hg => rfl); (case hr => first | (go_simp; done) | (go_simp; rfl)); intro gb340 hg w36 hbox hb; have n0_ := Aside0.mk (below_step (by repeat (first | (with_reducible first | exact HB.out | apply below_alloc | apply pw_below_drewN | apply below_drew1) | exact HB.out)) hb); have n1_ := Aside0.mk (hbox); have n2_ := Aside0.mk ((by rw [hg]; exact (below_size (by repeat (first | (with_reducible first | exact HB.out | apply below_alloc | apply pw_below_drewN | apply below_drew1) | exact HB.out))) : w.heap.size ≤ gb340)); have n3_ := Aside0.mk ((by rw [hg]; exact (below_size (by repeat (first | (with_reducible first | exact HB.out | apply below_alloc | apply pw_below_drewN | apply below_drew1) | exact HB.out))) : w.heap.size ≤ gb340)); clear HB; have HB := n0_; have BK340 := n1_; have GW340 := n2_; have GE340 := n3_; clear n0_ n1_ n2_ n3_; clear hb hbox hg; have hcz37_0 : w36.cell? ⟨gb340, 0, none⟩ = some (.string (⟨#[]⟩ : ByteArray)) := (blk_cell BK340.out 0).trans rfl; have hcz37_1 : w36.cell? ⟨gb340, 1, none⟩ = some (.int .i64 0) := (blk_cell BK340.out 1).trans rfl; have hcz37_2 : w36.cell? ⟨gb340, 2, none⟩ = some (.string (⟨#[]⟩ : ByteArray)) := (blk_cell BK340.out 2).trans rfl; have hfz37_0 := blk_frozen BK340.out 0; have hfz37_1 := blk_frozen BK340.out 1; have hfz37_2 := blk_frozen BK340.out 2) | (go_at_call 104; (with_reducible refine (spec_NameFault.calls k1 ((rd_T132 l0 x3_1).f0) t341 _ A5.out).mono ?_); rintro e w' ⟨rfl, ⟨nd, rfl⟩⟩; (try first | exact ⟨rfl, _, World.drewN_drewN _ _ _⟩ | exact ⟨rfl, _, Eq.trans (World.drewN_drewN _ _ _) (congrArg (World.drewN _) (Nat.add_assoc _ _ _))⟩)) | (go_at_call 77; (with_reducible refine (spec_l1In.calls ((rd_T132 l0 x3_1).f1) 1 3 true _ A7.out).mono ?_); rintro e w' ⟨rfl, ⟨nd, rfl⟩⟩; (try first | exact ⟨rfl, _, World.drewN_drewN _ _ _⟩ | exact ⟨rfl, _, Eq.trans (World.drewN_drewN _ _ _) (congrArg (World.drewN _) (Nat.add_assoc _ _ _))⟩)) | (go_at_call 76; (with_reducible refine (spec_l6Is.calls k1 ((rd_T132 l0 x3_1).f2) 1 true _ A25.out).mono ?_); rintro e w' ⟨rfl, ⟨nd, rfl⟩⟩; (try first | exact ⟨rfl, _, World.drewN_drewN _ _ _⟩ | exact ⟨rfl, _, Eq.trans (World.drewN_drewN _ _ _) (congrArg (World.drewN _) (Nat.add_assoc _ _ _))⟩)))
           repeat (go_quiet (first | ((with_reducible refine gate_dst (N := 4) rfl ?_); refine box_event ?hg (N := 4) ?hd (cs := #[.string (⟨#[]⟩ : ByteArray), .int .i64 0, .string (⟨#[]⟩ : ByteArray)]) (t := 132) ?hr ?_; (case hd => rfl); (case hg => rfl); (case hr => first | (go_simp; done) | (go_simp; rfl)); intro gb340 hg w36 hbox hb; have n0_ := Aside0.mk (below_step (by repeat (first | (with_reducible first | exact HB.out | apply below_alloc | apply pw_below_drewN | apply below_drew1) | exact HB.out)) hb); have n1_ := Aside0.mk (hbox); have n2_ := Aside0.mk ((by rw [hg]; exact (below_size (by repeat (first | (with_reducible first | exact HB.out | apply below_alloc | apply pw_below_drewN | apply below_drew1) | exact HB.out))) : w.heap.size ≤ gb340)); have n3_ := Aside0.mk ((by rw [hg]; exact (below_size (by repeat (first | (with_reducible first | exact HB.out | apply below_alloc | apply pw_below_drewN | apply below_drew1) | exact HB.out))) : w.heap.size ≤ gb340)); clear HB; have HB := n0_; have BK340 := n1_; have GW340 := n2_; have GE340 := n3_; clear n0_ n1_ n2_ n3_; clear hb hbox hg; have hcz37_0 : w36.cell? ⟨gb340, 0, none⟩ = some (.string (⟨#[]⟩ : ByteArray)) := (blk_cell BK340.out 0).trans rfl; have hcz37_1 : w36.cell? ⟨gb340, 1, none⟩ = some (.int .i64 0) := (blk_cell BK340.out 1).trans rfl; have hcz37_2 : w36.cell? ⟨gb340, 2, none⟩ = some (.string (⟨#[]⟩ : ByteArray)) := (blk_cell BK340.out 2).trans rfl; have hfz37_0 := blk_frozen BK340.out 0; have hfz37_1 := blk_frozen BK340.out 1; have hfz37_2 := blk_frozen BK340.out 2) | (go_at_call 104; (with_reducible refine (spec_NameFault.calls k1 ((rd_T132 l0 x3_1).f0) t341 _ A5.out).mono ?_); rintro e w' ⟨rfl, ⟨nd, rfl⟩⟩; (try first | exact ⟨rfl, _, World.drewN_drewN _ _ _⟩ | exact ⟨rfl, _, Eq.trans (World.drewN_drewN _ _ _) (congrArg (World.drewN _) (Nat.add_assoc _ _ _))⟩)) | (go_at_call 77; (with_reducible refine (spec_l1In.calls ((rd_T132 l0 x3_1).f1) 1 3 true _ A7.out).mono ?_); rintro e w' ⟨rfl, ⟨nd, rfl⟩⟩; (try first | exact ⟨rfl, _, World.drewN_drewN _ _ _⟩ | exact ⟨rfl, _, Eq.trans (World.drewN_drewN _ _ _) (congrArg (World.drewN _) (Nat.add_assoc _ _ _))⟩)) | (go_at_call 76; (with_reducible refine (spec_l6Is.calls k1 ((rd_T132 l0 x3_1).f2) 1 true _ A25.out).mono ?_); rintro e w' ⟨rfl, ⟨nd, rfl⟩⟩; (try first | exact ⟨rfl, _, World.drewN_drewN _ _ _⟩ | exact ⟨rfl, _, Eq.trans (World.drewN_drewN _ _ _) (congrArg (World.drewN _) (Nat.add_assoc _ _ _))⟩))); try go_wp2_with (first | ((with_reducible refine gate_dst (N := 4) rfl ?_); refine box_event ?hg (N := 4) ?hd (cs := #[.string (⟨#[]⟩ : ByteArray), .int .i64 0, .string (⟨#[]⟩ : ByteArray)]) (t := 132) ?hr ?_; (case hd => rfl); (case hg => rfl); (case hr => first | (go_simp; done) | (go_simp; rfl)); intro gb340 hg w36 hbox hb; have n0_ := Aside0.mk (below_step (by repeat (first | (with_reducible first | exact HB.out | apply below_alloc | apply pw_below_drewN | apply below_drew1) | exact HB.out)) hb); have n1_ := Aside0.mk (hbox); have n2_ := Aside0.mk ((by rw [hg]; exact (below_size (by repeat (first | (with_reducible first | exact HB.out | apply below_alloc | apply pw_below_drewN | apply below_drew1) | exact HB.out))) : w.heap.size ≤ gb340)); have n3_ := Aside0.mk ((by rw [hg]; exact (below_size (by repeat (first | (with_reducible first | exact HB.out | apply below_alloc | apply pw_below_drewN | apply below_drew1) | exact HB.out))) : w.heap.size ≤ gb340)); clear HB; have HB := n0_; have BK340 := n1_; have GW340 := n2_; have GE340 := n3_; clear n0_ n1_ n2_ n3_; clear hb hbox hg; have hcz37_0 : w36.cell? ⟨gb340, 0, none⟩ = some (.string (⟨#[]⟩ : ByteArray)) := (blk_cell BK340.out 0).trans rfl; have hcz37_1 : w36.cell? ⟨gb340, 1, none⟩ = some (.int .i64 0) := (blk_cell BK340.out 1).trans rfl; have hcz37_2 : w36.cell? ⟨gb340, 2, none⟩ = some (.string (⟨#[]⟩ : ByteArray)) := (blk_cell BK340.out 2).trans rfl; have hfz37_0 := blk_frozen BK340.out 0; have hfz37_1 := blk_frozen BK340.out 1; have hfz37_2 := blk_frozen BK340.out 2) | (go_at_call 104; (with_reducible refine (spec_NameFault.calls k1 ((rd_T132 l0 x3_1).f0) t341 _ A5.out).mono ?_); rintro e w' ⟨rfl, ⟨nd, rfl⟩⟩; (try first | exact ⟨rfl, _, World.drewN_drewN _ _ _⟩ | exact ⟨rfl, _, Eq.trans (World.drewN_drewN _ _ _) (congrArg (World.drewN _) (Nat.add_assoc _ _ _))⟩)) | (go_at_call 77; (with_reducible refine (spec_l1In.calls ((rd_T132 l0 x3_1).f1) 1 3 true _ A7.out).mono ?_); rintro e w' ⟨rfl, ⟨nd, rfl⟩⟩; (try first | exact ⟨rfl, _, World.drewN_drewN _ _ _⟩ | exact ⟨rfl, _, Eq.trans (World.drewN_drewN _ _ _) (congrArg (World.drewN _) (Nat.add_assoc _ _ _))⟩)) | (go_at_call 76; (with_reducible refine (spec_l6Is.calls k1 ((rd_T132 l0 x3_1).f2) 1 true _ A25.out).mono ?_); rintro e w' ⟨rfl, ⟨nd, rfl⟩⟩; (try first | exact ⟨rfl, _, World.drewN_drewN _ _ _⟩ | exact ⟨rfl, _, Eq.trans (World.drewN_drewN _ _ _) (congrArg (World.drewN _) (Nat.add_assoc _ _ _))⟩))))
           go_roundg k1
           case measure => have := HK1.out; omega
           case rel => exact ⟨(wrap64 (x3_1 + 1)), (by first | rfl | (simp; done) | (simp [*]; done)), H', ⟨by have := HK1.out; omega⟩, ⟨by repeat (first | (with_reducible first | exact HB.out | apply below_alloc | apply pw_below_drewN | apply below_drew1 | refine below_set ?_ GE340.out) | exact HB.out)⟩⟩
         ·
          replace c26 := Bool.eq_false_iff.mpr c26
          subst c26
          have H1 : (some 1) = some r := by rw [if_neg (show ¬ (false = true) by decide)] at H; exact H
          clear H
          have H := H1
          clear H1
          obtain rfl := Option.some.inj H
          have p339 : 0 ≤ (x3_1 : Int) := of_decide_eq_true (by first | (with_reducible assumption) | assumption)
          have q339 : x3_1 < (l0.length : Int) := of_decide_eq_true (by first | (with_reducible assumption) | assumption)
          obtain ⟨ad339, e339, hx339_0, hx339_1, hx339_2⟩ := at_T132 HR0.out x3_1 p339 q339
          cases e339
          replace hx339_0 := (HB.out.cell (World.block_lt_of_cell? w _ hx339_0)).trans hx339_0
          replace hx339_1 := (HB.out.cell (World.block_lt_of_cell? w _ hx339_1)).trans hx339_1
          replace hx339_2 := (HB.out.cell (World.block_lt_of_cell? w _ hx339_2)).trans hx339_2
          replace p339 := eq_true p339
          replace q339 := eq_true q339
          go_wp2_with (first | ((with_reducible refine gate_dst (N := 4) rfl ?_); refine box_event ?hg (N := 4) ?hd (cs := #[.string (⟨#[]⟩ : ByteArray), .int .i64 0, .string (⟨#[]⟩ : ByteArray)]) (t := 132) ?hr ?_; (case hd => rfl); (case hg => rfl); (case hr => first | (go_simp; done) | (go_simp; rfl)); intro gb340 hg w38 hbox hb; have n0_ := Aside0.mk (below_step (by repeat (first | (with_reducible first | exact HB.out | apply below_alloc | apply pw_below_drewN | apply below_drew1) | exact HB.out)) hb); have n1_ := Aside0.mk (hbox); have n2_ := Aside0.mk ((by rw [hg]; exact (below_size (by repeat (first | (with_reducible first | exact HB.out | apply below_alloc | apply pw_below_drewN | apply below_drew1) | exact HB.out))) : w.heap.size ≤ gb340)); have n3_ := Aside0.mk ((by rw [hg]; exact (below_size (by repeat (first | (with_reducible first | exact HB.out | apply below_alloc | apply pw_below_drewN | apply below_drew1) | exact HB.out))) : w.heap.size ≤ gb340)); clear HB; have HB := n0_; have BK340 := n1_; have GW340 := n2_; have GE340 := n3_; clear n0_ n1_ n2_ n3_; clear hb hbox hg; have hcz39_0 : w38.cell? ⟨gb340, 0, none⟩ = some (.string (⟨#[]⟩ : ByteArray)) := (blk_cell BK340.out 0).trans rfl; have hcz39_1 : w38.cell? ⟨gb340, 1, none⟩ = some (.int .i64 0) := (blk_cell BK340.out 1).trans rfl; have hcz39_2 : w38.cell? ⟨gb340, 2, none⟩ = some (.string (⟨#[]⟩ : ByteArray)) := (blk_cell BK340.out 2).trans rfl; have hfz39_0 := blk_frozen BK340.out 0; have hfz39_1 := blk_frozen BK340.out 1; have hfz39_2 := blk_frozen BK340.out 2) | (go_at_call 104; (with_reducible refine (spec_NameFault.calls k1 ((rd_T132 l0 x3_1).f0) t341 _ A5.out).mono ?_); rintro e w' ⟨rfl, ⟨nd, rfl⟩⟩; (try first | exact ⟨rfl, _, World.drewN_drewN _ _ _⟩ | exact ⟨rfl, _, Eq.trans (World.drewN_drewN _ _ _) (congrArg (World.drewN _) (Nat.add_assoc _ _ _))⟩)) | (go_at_call 77; (with_reducible refine (spec_l1In.calls ((rd_T132 l0 x3_1).f1) 1 3 true _ A7.out).mono ?_); rintro e w' ⟨rfl, ⟨nd, rfl⟩⟩; (try first | exact ⟨rfl, _, World.drewN_drewN _ _ _⟩ | exact ⟨rfl, _, Eq.trans (World.drewN_drewN _ _ _) (congrArg (World.drewN _) (Nat.add_assoc _ _ _))⟩)) | (go_at_call 76; (with_reducible refine (spec_l6Is.calls k1 ((rd_T132 l0 x3_1).f2) 1 false _ A25.out).mono ?_); rintro e w' ⟨rfl, ⟨nd, rfl⟩⟩; (try first | exact ⟨rfl, _, World.drewN_drewN _ _ _⟩ | exact ⟨rfl, _, Eq.trans (World.drewN_drewN _ _ _) (congrArg (World.drewN _) (Nat.add_assoc _ _ _))⟩)))
          repeat (go_quiet (first | ((with_reducible refine gate_dst (N := 4) rfl ?_); refine box_event ?hg (N := 4) ?hd (cs := #[.string (⟨#[]⟩ : ByteArray), .int .i64 0, .string (⟨#[]⟩ : ByteArray)]) (t := 132) ?hr ?_; (case hd => rfl); (case hg => rfl); (case hr => first | (go_simp; done) | (go_simp; rfl)); intro gb340 hg w38 hbox hb; have n0_ := Aside0.mk (below_step (by repeat (first | (with_reducible first | exact HB.out | apply below_alloc | apply pw_below_drewN | apply below_drew1) | exact HB.out)) hb); have n1_ := Aside0.mk (hbox); have n2_ := Aside0.mk ((by rw [hg]; exact (below_size (by repeat (first | (with_reducible first | exact HB.out | apply below_alloc | apply pw_below_drewN | apply below_drew1) | exact HB.out))) : w.heap.size ≤ gb340)); have n3_ := Aside0.mk ((by rw [hg]; exact (below_size (by repeat (first | (with_reducible first | exact HB.out | apply below_alloc | apply pw_below_drewN | apply below_drew1) | exact HB.out))) : w.heap.size ≤ gb340)); clear HB; have HB := n0_; have BK340 := n1_; have GW340 := n2_; have GE340 := n3_; clear n0_ n1_ n2_ n3_; clear hb hbox hg; have hcz39_0 : w38.cell? ⟨gb340, 0, none⟩ = some (.string (⟨#[]⟩ : ByteArray)) := (blk_cell BK340.out 0).trans rfl; have hcz39_1 : w38.cell? ⟨gb340, 1, none⟩ = some (.int .i64 0) := (blk_cell BK340.out 1).trans rfl; have hcz39_2 : w38.cell? ⟨gb340, 2, none⟩ = some (.string (⟨#[]⟩ : ByteArray)) := (blk_cell BK340.out 2).trans rfl; have hfz39_0 := blk_frozen BK340.out 0; have hfz39_1 := blk_frozen BK340.out 1; have hfz39_2 := blk_frozen BK340.out 2) | (go_at_call 104; (with_reducible refine (spec_NameFault.calls k1 ((rd_T132 l0 x3_1).f0) t341 _ A5.out).mono ?_); rintro e w' ⟨rfl, ⟨nd, rfl⟩⟩; (try first | exact ⟨rfl, _, World.drewN_drewN _ _ _⟩ | exact ⟨rfl, _, Eq.trans (World.drewN_drewN _ _ _) (congrArg (World.drewN _) (Nat.add_assoc _ _ _))⟩)) | (go_at_call 77; (with_reducible refine (spec_l1In.calls ((rd_T132 l0 x3_1).f1) 1 3 true _ A7.out).mono ?_); rintro e w' ⟨rfl, ⟨nd, rfl⟩⟩; (try first | exact ⟨rfl, _, World.drewN_drewN _ _ _⟩ | exact ⟨rfl, _, Eq.trans (World.drewN_drewN _ _ _) (congrArg (World.drewN _) (Nat.add_assoc _ _ _))⟩)) | (go_at_call 76; (with_reducible refine (spec_l6Is.calls k1 ((rd_T132 l0 x3_1).f2) 1 false _ A25.out).mono ?_); rintro e w' ⟨rfl, ⟨nd, rfl⟩⟩; (try first | exact ⟨rfl, _, World.drewN_drewN _ _ _⟩ | exact ⟨rfl, _, Eq.trans (World.drewN_drewN _ _ _) (congrArg (World.drewN _) (Nat.add_assoc _ _ _))⟩))); try go_wp2_with (first | ((with_reducible refine gate_dst (N := 4) rfl ?_); refine box_event ?hg (N := 4) ?hd (cs := #[.string (⟨#[]⟩ : ByteArray), .int .i64 0, .string (⟨#[]⟩ : ByteArray)]) (t := 132) ?hr ?_; (case hd => rfl); (case hg => rfl); (case hr => first | (go_simp; done) | (go_simp; rfl)); intro gb340 hg w38 hbox hb; have n0_ := Aside0.mk (below_step (by repeat (first | (with_reducible first | exact HB.out | apply below_alloc | apply pw_below_drewN | apply below_drew1) | exact HB.out)) hb); have n1_ := Aside0.mk (hbox); have n2_ := Aside0.mk ((by rw [hg]; exact (below_size (by repeat (first | (with_reducible first | exact HB.out | apply below_alloc | apply pw_below_drewN | apply below_drew1) | exact HB.out))) : w.heap.size ≤ gb340)); have n3_ := Aside0.mk ((by rw [hg]; exact (below_size (by repeat (first | (with_reducible first | exact HB.out | apply below_alloc | apply pw_below_drewN | apply below_drew1) | exact HB.out))) : w.heap.size ≤ gb340)); clear HB; have HB := n0_; have BK340 := n1_; have GW340 := n2_; have GE340 := n3_; clear n0_ n1_ n2_ n3_; clear hb hbox hg; have hcz39_0 : w38.cell? ⟨gb340, 0, none⟩ = some (.string (⟨#[]⟩ : ByteArray)) := (blk_cell BK340.out 0).trans rfl; have hcz39_1 : w38.cell? ⟨gb340, 1, none⟩ = some (.int .i64 0) := (blk_cell BK340.out 1).trans rfl; have hcz39_2 : w38.cell? ⟨gb340, 2, none⟩ = some (.string (⟨#[]⟩ : ByteArray)) := (blk_cell BK340.out 2).trans rfl; have hfz39_0 := blk_frozen BK340.out 0; have hfz39_1 := blk_frozen BK340.out 1; have hfz39_2 := blk_frozen BK340.out 2) | (go_at_call 104; (with_reducible refine (spec_NameFault.calls k1 ((rd_T132 l0 x3_1).f0) t341 _ A5.out).mono ?_); rintro e w' ⟨rfl, ⟨nd, rfl⟩⟩; (try first | exact ⟨rfl, _, World.drewN_drewN _ _ _⟩ | exact ⟨rfl, _, Eq.trans (World.drewN_drewN _ _ _) (congrArg (World.drewN _) (Nat.add_assoc _ _ _))⟩)) | (go_at_call 77; (with_reducible refine (spec_l1In.calls ((rd_T132 l0 x3_1).f1) 1 3 true _ A7.out).mono ?_); rintro e w' ⟨rfl, ⟨nd, rfl⟩⟩; (try first | exact ⟨rfl, _, World.drewN_drewN _ _ _⟩ | exact ⟨rfl, _, Eq.trans (World.drewN_drewN _ _ _) (congrArg (World.drewN _) (Nat.add_assoc _ _ _))⟩)) | (go_at_call 76; (with_reducible refine (spec_l6Is.calls k1 ((rd_T132 l0 x3_1).f2) 1 false _ A25.out).mono ?_); rintro e w' ⟨rfl, ⟨nd, rfl⟩⟩; (try first | exact ⟨rfl, _, World.drewN_drewN _ _ _⟩ | exact ⟨rfl, _, Eq.trans (World.drewN_drewN _ _ _) (congrArg (World.drewN _) (Nat.add_assoc _ _ _))⟩))))
          go_ret
          exact ⟨by first | rfl | (simp [errW_none, errW_some] <;> rfl) | (simp [*, errW_none, errW_some] <;> rfl), by repeat (first | (with_reducible first | exact HB.out | apply below_alloc | apply pw_below_drewN | apply below_drew1 | refine below_set ?_ GE340.out) | exact HB.out)⟩
       ·
        replace c8 := Bool.eq_false_iff.mpr c8
        subst c8
        have H1 : (some 3) = some r := by rw [if_neg (show ¬ (false = true) by decide)] at H; exact H
        clear H
        have H := H1
        clear H1
        obtain rfl := Option.some.inj H
        have p339 : 0 ≤ (x3_1 : Int) := of_decide_eq_true (by first | (with_reducible assumption) | assumption)
        have q339 : x3_1 < (l0.length : Int) := of_decide_eq_true (by first | (with_reducible assumption) | assumption)
        obtain ⟨ad339, e339, hx339_0, hx339_1, hx339_2⟩ := at_T132 HR0.out x3_1 p339 q339
        cases e339
        replace hx339_0 := (HB.out.cell (World.block_lt_of_cell? w _ hx339_0)).trans hx339_0
        replace hx339_1 := (HB.out.cell (World.block_lt_of_cell? w _ hx339_1)).trans hx339_1
        replace hx339_2 := (HB.out.cell (World.block_lt_of_cell? w _ hx339_2)).trans hx339_2
        replace p339 := eq_true p339
        replace q339 := eq_true q339
        go_wp2_with (first | ((with_reducible refine gate_dst (N := 4) rfl ?_); refine box_event ?hg (N := 4) ?hd (cs := #[.string (⟨#[]⟩ : ByteArray), .int .i64 0, .string (⟨#[]⟩ : ByteArray)]) (t := 132) ?hr ?_; (case hd => rfl); (case hg => rfl); (case hr => first | (go_simp; done) | (go_simp; rfl)); intro gb340 hg w40 hbox hb; have n0_ := Aside0.mk (below_step (by repeat (first | (with_reducible first | exact HB.out | apply below_alloc | apply pw_below_drewN | apply below_drew1) | exact HB.out)) hb); have n1_ := Aside0.mk (hbox); have n2_ := Aside0.mk ((by rw [hg]; exact (below_size (by repeat (first | (with_reducible first | exact HB.out | apply below_alloc | apply pw_below_drewN | apply below_drew1) | exact HB.out))) : w.heap.size ≤ gb340)); have n3_ := Aside0.mk ((by rw [hg]; exact (below_size (by repeat (first | (with_reducible first | exact HB.out | apply below_alloc | apply pw_below_drewN | apply below_drew1) | exact HB.out))) : w.heap.size ≤ gb340)); clear HB; have HB := n0_; have BK340 := n1_; have GW340 := n2_; have GE340 := n3_; clear n0_ n1_ n2_ n3_; clear hb hbox hg; have hcz41_0 : w40.cell? ⟨gb340, 0, none⟩ = some (.string (⟨#[]⟩ : ByteArray)) := (blk_cell BK340.out 0).trans rfl; have hcz41_1 : w40.cell? ⟨gb340, 1, none⟩ = some (.int .i64 0) := (blk_cell BK340.out 1).trans rfl; have hcz41_2 : w40.cell? ⟨gb340, 2, none⟩ = some (.string (⟨#[]⟩ : ByteArray)) := (blk_cell BK340.out 2).trans rfl; have hfz41_0 := blk_frozen BK340.out 0; have hfz41_1 := blk_frozen BK340.out 1; have hfz41_2 := blk_frozen BK340.out 2) | (go_at_call 104; (with_reducible refine (spec_NameFault.calls k1 ((rd_T132 l0 x3_1).f0) t341 _ A5.out).mono ?_); rintro e w' ⟨rfl, ⟨nd, rfl⟩⟩; (try first | exact ⟨rfl, _, World.drewN_drewN _ _ _⟩ | exact ⟨rfl, _, Eq.trans (World.drewN_drewN _ _ _) (congrArg (World.drewN _) (Nat.add_assoc _ _ _))⟩)) | (go_at_call 77; (with_reducible refine (spec_l1In.calls ((rd_T132 l0 x3_1).f1) 1 3 false _ A7.out).mono ?_); rintro e w' ⟨rfl, ⟨nd, rfl⟩⟩; (try first | exact ⟨rfl, _, World.drewN_drewN _ _ _⟩ | exact ⟨rfl, _, Eq.trans (World.drewN_drewN _ _ _) (congrArg (World.drewN _) (Nat.add_assoc _ _ _))⟩)))
        repeat (go_quiet (first | ((with_reducible refine gate_dst (N := 4) rfl ?_); refine box_event ?hg (N := 4) ?hd (cs := #[.string (⟨#[]⟩ : ByteArray), .int .i64 0, .string (⟨#[]⟩ : ByteArray)]) (t := 132) ?hr ?_; (case hd => rfl); (case hg => rfl); (case hr => first | (go_simp; done) | (go_simp; rfl)); intro gb340 hg w40 hbox hb; have n0_ := Aside0.mk (below_step (by repeat (first | (with_reducible first | exact HB.out | apply below_alloc | apply pw_below_drewN | apply below_drew1) | exact HB.out)) hb); have n1_ := Aside0.mk (hbox); have n2_ := Aside0.mk ((by rw [hg]; exact (below_size (by repeat (first | (with_reducible first | exact HB.out | apply below_alloc | apply pw_below_drewN | apply below_drew1) | exact HB.out))) : w.heap.size ≤ gb340)); have n3_ := Aside0.mk ((by rw [hg]; exact (below_size (by repeat (first | (with_reducible first | exact HB.out | apply below_alloc | apply pw_below_drewN | apply below_drew1) | exact HB.out))) : w.heap.size ≤ gb340)); clear HB; have HB := n0_; have BK340 := n1_; have GW340 := n2_; have GE340 := n3_; clear n0_ n1_ n2_ n3_; clear hb hbox hg; have hcz41_0 : w40.cell? ⟨gb340, 0, none⟩ = some (.string (⟨#[]⟩ : ByteArray)) := (blk_cell BK340.out 0).trans rfl; have hcz41_1 : w40.cell? ⟨gb340, 1, none⟩ = some (.int .i64 0) := (blk_cell BK340.out 1).trans rfl; have hcz41_2 : w40.cell? ⟨gb340, 2, none⟩ = some (.string (⟨#[]⟩ : ByteArray)) := (blk_cell BK340.out 2).trans rfl; have hfz41_0 := blk_frozen BK340.out 0; have hfz41_1 := blk_frozen BK340.out 1; have hfz41_2 := blk_frozen BK340.out 2) | (go_at_call 104; (with_reducible refine (spec_NameFault.calls k1 ((rd_T132 l0 x3_1).f0) t341 _ A5.out).mono ?_); rintro e w' ⟨rfl, ⟨nd, rfl⟩⟩; (try first | exact ⟨rfl, _, World.drewN_drewN _ _ _⟩ | exact ⟨rfl, _, Eq.trans (World.drewN_drewN _ _ _) (congrArg (World.drewN _) (Nat.add_assoc _ _ _))⟩)) | (go_at_call 77; (with_reducible refine (spec_l1In.calls ((rd_T132 l0 x3_1).f1) 1 3 false _ A7.out).mono ?_); rintro e w' ⟨rfl, ⟨nd, rfl⟩⟩; (try first | exact ⟨rfl, _, World.drewN_drewN _ _ _⟩ | exact ⟨rfl, _, Eq.trans (World.drewN_drewN _ _ _) (congrArg (World.drewN _) (Nat.add_assoc _ _ _))⟩))); try go_wp2_with (first | ((with_reducible refine gate_dst (N := 4) rfl ?_); refine box_event ?hg (N := 4) ?hd (cs := #[.string (⟨#[]⟩ : ByteArray), .int .i64 0, .string (⟨#[]⟩ : ByteArray)]) (t := 132) ?hr ?_; (case hd => rfl); (case hg => rfl); (case hr => first | (go_simp; done) | (go_simp; rfl)); intro gb340 hg w40 hbox hb; have n0_ := Aside0.mk (below_step (by repeat (first | (with_reducible first | exact HB.out | apply below_alloc | apply pw_below_drewN | apply below_drew1) | exact HB.out)) hb); have n1_ := Aside0.mk (hbox); have n2_ := Aside0.mk ((by rw [hg]; exact (below_size (by repeat (first | (with_reducible first | exact HB.out | apply below_alloc | apply pw_below_drewN | apply below_drew1) | exact HB.out))) : w.heap.size ≤ gb340)); have n3_ := Aside0.mk ((by rw [hg]; exact (below_size (by repeat (first | (with_reducible first | exact HB.out | apply below_alloc | apply pw_below_drewN | apply below_drew1) | exact HB.out))) : w.heap.size ≤ gb340)); clear HB; have HB := n0_; have BK340 := n1_; have GW340 := n2_; have GE340 := n3_; clear n0_ n1_ n2_ n3_; clear hb hbox hg; have hcz41_0 : w40.cell? ⟨gb340, 0, none⟩ = some (.string (⟨#[]⟩ : ByteArray)) := (blk_cell BK340.out 0).trans rfl; have hcz41_1 : w40.cell? ⟨gb340, 1, none⟩ = some (.int .i64 0) := (blk_cell BK340.out 1).trans rfl; have hcz41_2 : w40.cell? ⟨gb340, 2, none⟩ = some (.string (⟨#[]⟩ : ByteArray)) := (blk_cell BK340.out 2).trans rfl; have hfz41_0 := blk_frozen BK340.out 0; have hfz41_1 := blk_frozen BK340.out 1; have hfz41_2 := blk_frozen BK340.out 2) | (go_at_call 104; (with_reducible refine (spec_NameFault.calls k1 ((rd_T132 l0 x3_1).f0) t341 _ A5.out).mono ?_); rintro e w' ⟨rfl, ⟨nd, rfl⟩⟩; (try first | exact ⟨rfl, _, World.drewN_drewN _ _ _⟩ | exact ⟨rfl, _, Eq.trans (World.drewN_drewN _ _ _) (congrArg (World.drewN _) (Nat.add_assoc _ _ _))⟩)) | (go_at_call 77; (with_reducible refine (spec_l1In.calls ((rd_T132 l0 x3_1).f1) 1 3 false _ A7.out).mono ?_); rintro e w' ⟨rfl, ⟨nd, rfl⟩⟩; (try first | exact ⟨rfl, _, World.drewN_drewN _ _ _⟩ | exact ⟨rfl, _, Eq.trans (World.drewN_drewN _ _ _) (congrArg (World.drewN _) (Nat.add_assoc _ _ _))⟩))))
        go_ret
        exact ⟨by first | rfl | (simp [errW_none, errW_some] <;> rfl) | (simp [*, errW_none, errW_some] <;> rfl), by repeat (first | (with_reducible first | exact HB.out | apply below_alloc | apply pw_below_drewN | apply below_drew1 | refine below_set ?_ GE340.out) | exact HB.out)⟩
      ·
       rw [if_neg c6] at H
       have c6b0 : (t341 == 0) = false := beq_eq_false_iff_ne.mpr c6
       have c6b1 : (t341 != 0) = true := bne_iff_ne.mpr c6
       obtain rfl := Option.some.inj H
       have p339 : 0 ≤ (x3_1 : Int) := of_decide_eq_true (by first | (with_reducible assumption) | assumption)
       have q339 : x3_1 < (l0.length : Int) := of_decide_eq_true (by first | (with_reducible assumption) | assumption)
       obtain ⟨ad339, e339, hx339_0, hx339_1, hx339_2⟩ := at_T132 HR0.out x3_1 p339 q339
       cases e339
       replace hx339_0 := (HB.out.cell (World.block_lt_of_cell? w _ hx339_0)).trans hx339_0
       replace hx339_1 := (HB.out.cell (World.block_lt_of_cell? w _ hx339_1)).trans hx339_1
       replace hx339_2 := (HB.out.cell (World.block_lt_of_cell? w _ hx339_2)).trans hx339_2
       replace p339 := eq_true p339
       replace q339 := eq_true q339
       go_wp2_with (first | ((with_reducible refine gate_dst (N := 4) rfl ?_); refine box_event ?hg (N := 4) ?hd (cs := #[.string (⟨#[]⟩ : ByteArray), .int .i64 0, .string (⟨#[]⟩ : ByteArray)]) (t := 132) ?hr ?_; (case hd => rfl); (case hg => rfl); (case hr => first | (go_simp; done) | (go_simp; rfl)); intro gb340 hg w42 hbox hb; have n0_ := Aside0.mk (below_step (by repeat (first | (with_reducible first | exact HB.out | apply below_alloc | apply pw_below_drewN | apply below_drew1) | exact HB.out)) hb); have n1_ := Aside0.mk (hbox); have n2_ := Aside0.mk ((by rw [hg]; exact (below_size (by repeat (first | (with_reducible first | exact HB.out | apply below_alloc | apply pw_below_drewN | apply below_drew1) | exact HB.out))) : w.heap.size ≤ gb340)); have n3_ := Aside0.mk ((by rw [hg]; exact (below_size (by repeat (first | (with_reducible first | exact HB.out | apply below_alloc | apply pw_below_drewN | apply below_drew1) | exact HB.out))) : w.heap.size ≤ gb340)); clear HB; have HB := n0_; have BK340 := n1_; have GW340 := n2_; have GE340 := n3_; clear n0_ n1_ n2_ n3_; clear hb hbox hg; have hcz43_0 : w42.cell? ⟨gb340, 0, none⟩ = some (.string (⟨#[]⟩ : ByteArray)) := (blk_cell BK340.out 0).trans rfl; have hcz43_1 : w42.cell? ⟨gb340, 1, none⟩ = some (.int .i64 0) := (blk_cell BK340.out 1).trans rfl; have hcz43_2 : w42.cell? ⟨gb340, 2, none⟩ = some (.string (⟨#[]⟩ : ByteArray)) := (blk_cell BK340.out 2).trans rfl; have hfz43_0 := blk_frozen BK340.out 0; have hfz43_1 := blk_frozen BK340.out 1; have hfz43_2 := blk_frozen BK340.out 2) | (go_at_call 104; (with_reducible refine (spec_NameFault.calls k1 ((rd_T132 l0 x3_1).f0) t341 _ A5.out).mono ?_); rintro e w' ⟨rfl, ⟨nd, rfl⟩⟩; (try first | exact ⟨rfl, _, World.drewN_drewN _ _ _⟩ | exact ⟨rfl, _, Eq.trans (World.drewN_drewN _ _ _) (congrArg (World.drewN _) (Nat.add_assoc _ _ _))⟩)))
       repeat (go_quiet (first | ((with_reducible refine gate_dst (N := 4) rfl ?_); refine box_event ?hg (N := 4) ?hd (cs := #[.string (⟨#[]⟩ : ByteArray), .int .i64 0, .string (⟨#[]⟩ : ByteArray)]) (t := 132) ?hr ?_; (case hd => rfl); (case hg => rfl); (case hr => first | (go_simp; done) | (go_simp; rfl)); intro gb340 hg w42 hbox hb; have n0_ := Aside0.mk (below_step (by repeat (first | (with_reducible first | exact HB.out | apply below_alloc | apply pw_below_drewN | apply below_drew1) | exact HB.out)) hb); have n1_ := Aside0.mk (hbox); have n2_ := Aside0.mk ((by rw [hg]; exact (below_size (by repeat (first | (with_reducible first | exact HB.out | apply below_alloc | apply pw_below_drewN | apply below_drew1) | exact HB.out))) : w.heap.size ≤ gb340)); have n3_ := Aside0.mk ((by rw [hg]; exact (below_size (by repeat (first | (with_reducible first | exact HB.out | apply below_alloc | apply pw_below_drewN | apply below_drew1) | exact HB.out))) : w.heap.size ≤ gb340)); clear HB; have HB := n0_; have BK340 := n1_; have GW340 := n2_; have GE340 := n3_; clear n0_ n1_ n2_ n3_; clear hb hbox hg; have hcz43_0 : w42.cell? ⟨gb340, 0, none⟩ = some (.string (⟨#[]⟩ : ByteArray)) := (blk_cell BK340.out 0).trans rfl; have hcz43_1 : w42.cell? ⟨gb340, 1, none⟩ = some (.int .i64 0) := (blk_cell BK340.out 1).trans rfl; have hcz43_2 : w42.cell? ⟨gb340, 2, none⟩ = some (.string (⟨#[]⟩ : ByteArray)) := (blk_cell BK340.out 2).trans rfl; have hfz43_0 := blk_frozen BK340.out 0; have hfz43_1 := blk_frozen BK340.out 1; have hfz43_2 := blk_frozen BK340.out 2) | (go_at_call 104; (with_reducible refine (spec_NameFault.calls k1 ((rd_T132 l0 x3_1).f0) t341 _ A5.out).mono ?_); rintro e w' ⟨rfl, ⟨nd, rfl⟩⟩; (try first | exact ⟨rfl, _, World.drewN_drewN _ _ _⟩ | exact ⟨rfl, _, Eq.trans (World.drewN_drewN _ _ _) (congrArg (World.drewN _) (Nat.add_assoc _ _ _))⟩))); try go_wp2_with (first | ((with_reducible refine gate_dst (N := 4) rfl ?_); refine box_event ?hg (N := 4) ?hd (cs := #[.string (⟨#[]⟩ : ByteArray), .int .i64 0, .string (⟨#[]⟩ : ByteArray)]) (t := 132) ?hr ?_; (case hd => rfl); (case hg => rfl); (case hr => first | (go_simp; done) | (go_simp; rfl)); intro gb340 hg w42 hbox hb; have n0_ := Aside0.mk (below_step (by repeat (first | (with_reducible first | exact HB.out | apply below_alloc | apply pw_below_drewN | apply below_drew1) | exact HB.out)) hb); have n1_ := Aside0.mk (hbox); have n2_ := Aside0.mk ((by rw [hg]; exact (below_size (by repeat (first | (with_reducible first | exact HB.out | apply below_alloc | apply pw_below_drewN | apply below_drew1) | exact HB.out))) : w.heap.size ≤ gb340)); have n3_ := Aside0.mk ((by rw [hg]; exact (below_size (by repeat (first | (with_reducible first | exact HB.out | apply below_alloc | apply pw_below_drewN | apply below_drew1) | exact HB.out))) : w.heap.size ≤ gb340)); clear HB; have HB := n0_; have BK340 := n1_; have GW340 := n2_; have GE340 := n3_; clear n0_ n1_ n2_ n3_; clear hb hbox hg; have hcz43_0 : w42.cell? ⟨gb340, 0, none⟩ = some (.string (⟨#[]⟩ : ByteArray)) := (blk_cell BK340.out 0).trans rfl; have hcz43_1 : w42.cell? ⟨gb340, 1, none⟩ = some (.int .i64 0) := (blk_cell BK340.out 1).trans rfl; have hcz43_2 : w42.cell? ⟨gb340, 2, none⟩ = some (.string (⟨#[]⟩ : ByteArray)) := (blk_cell BK340.out 2).trans rfl; have hfz43_0 := blk_frozen BK340.out 0; have hfz43_1 := blk_frozen BK340.out 1; have hfz43_2 := blk_frozen BK340.out 2) | (go_at_call 104; (with_reducible refine (spec_NameFault.calls k1 ((rd_T132 l0 x3_1).f0) t341 _ A5.out).mono ?_); rintro e w' ⟨rfl, ⟨nd, rfl⟩⟩; (try first | exact ⟨rfl, _, World.drewN_drewN _ _ _⟩ | exact ⟨rfl, _, Eq.trans (World.drewN_drewN _ _ _) (congrArg (World.drewN _) (Nat.add_assoc _ _ _))⟩))))
       go_ret
       exact ⟨by first | rfl | (simp [errW_none, errW_some] <;> rfl) | (simp [*, errW_none, errW_some] <;> rfl), by repeat (first | (with_reducible first | exact HB.out | apply below_alloc | apply pw_below_drewN | apply below_drew1 | refine below_set ?_ GE340.out) | exact HB.out)⟩
     ·
      rw [if_neg c4] at H
      exact absurd H (by simp)
    ·
     rw [if_neg c3] at H
     have c3b0 : decide (x3_1 < (l0.length : Int)) = false := decide_eq_false c3
     clear c3
     replace H := Option.bind_eq_some_iff.mp H
     obtain ⟨t337, A440, H⟩ := H
     replace H : ((spec_TextFault.f k1 t337).bind fun t338 => (some t338)) = some r := H
     have A44 := Aside0.mk A440
     clear A440
     replace H := Option.bind_eq_some_iff.mp H
     obtain ⟨t338, A450, H⟩ := H
     replace H : (some t338) = some r := H
     have A45 := Aside0.mk A450
     clear A450
     obtain rfl := Option.some.inj H
     go_wp2_with (first | (go_at_call 105; (with_reducible refine (spec_l6Tree.calls k1 _ _ l0 t337 _ ?side1 ?side2 A44.out).mono ?_); (case side1 => repeat (first | exact (Kd.C_below HR0.out HB.out) | (with_reducible refine Kd.C_alloc ?_ _) | (with_reducible refine Kd.C_drewN ?_ _) | (with_reducible refine Kd.C_drew ?_))); (case side2 => exact HC0.out); rintro e w46 ⟨rfl, hb⟩; have n0_ := Aside0.mk (below_step (by repeat (first | (with_reducible first | exact HB.out | apply below_alloc | apply pw_below_drewN | apply below_drew1) | exact HB.out)) hb); clear HB; have HB := n0_; clear n0_; (try clear hb); (try clear hb2); (try clear hk); (try clear hi)) | (go_at_call 70; (with_reducible refine (spec_TextFault.calls k1 t337 t338 _ A45.out).mono ?_); rintro e w47 ⟨rfl, hb⟩; have n0_ := Aside0.mk (below_step (by repeat (first | (with_reducible first | exact HB.out | apply below_alloc | apply pw_below_drewN | apply below_drew1) | exact HB.out)) hb); clear HB; have HB := n0_; clear n0_; (try clear hb); (try clear hb2); (try clear hk); (try clear hi)))
     repeat (go_quiet (first | (go_at_call 105; (with_reducible refine (spec_l6Tree.calls k1 _ _ l0 t337 _ ?side1 ?side2 A44.out).mono ?_); (case side1 => repeat (first | exact (Kd.C_below HR0.out HB.out) | (with_reducible refine Kd.C_alloc ?_ _) | (with_reducible refine Kd.C_drewN ?_ _) | (with_reducible refine Kd.C_drew ?_))); (case side2 => exact HC0.out); rintro e w46 ⟨rfl, hb⟩; have n0_ := Aside0.mk (below_step (by repeat (first | (with_reducible first | exact HB.out | apply below_alloc | apply pw_below_drewN | apply below_drew1) | exact HB.out)) hb); clear HB; have HB := n0_; clear n0_; (try clear hb); (try clear hb2); (try clear hk); (try clear hi)) | (go_at_call 70; (with_reducible refine (spec_TextFault.calls k1 t337 t338 _ A45.out).mono ?_); rintro e w47 ⟨rfl, hb⟩; have n0_ := Aside0.mk (below_step (by repeat (first | (with_reducible first | exact HB.out | apply below_alloc | apply pw_below_drewN | apply below_drew1) | exact HB.out)) hb); clear HB; have HB := n0_; clear n0_; (try clear hb); (try clear hb2); (try clear hk); (try clear hi))); try go_wp2_with (first | (go_at_call 105; (with_reducible refine (spec_l6Tree.calls k1 _ _ l0 t337 _ ?side1 ?side2 A44.out).mono ?_); (case side1 => repeat (first | exact (Kd.C_below HR0.out HB.out) | (with_reducible refine Kd.C_alloc ?_ _) | (with_reducible refine Kd.C_drewN ?_ _) | (with_reducible refine Kd.C_drew ?_))); (case side2 => exact HC0.out); rintro e w46 ⟨rfl, hb⟩; have n0_ := Aside0.mk (below_step (by repeat (first | (with_reducible first | exact HB.out | apply below_alloc | apply pw_below_drewN | apply below_drew1) | exact HB.out)) hb); clear HB; have HB := n0_; clear n0_; (try clear hb); (try clear hb2); (try clear hk); (try clear hi)) | (go_at_call 70; (with_reducible refine (spec_TextFault.calls k1 t337 t338 _ A45.out).mono ?_); rintro e w47 ⟨rfl, hb⟩; have n0_ := Aside0.mk (below_step (by repeat (first | (with_reducible first | exact HB.out | apply below_alloc | apply pw_below_drewN | apply below_drew1) | exact HB.out)) hb); clear HB; have HB := n0_; clear n0_; (try clear hb); (try clear hb2); (try clear hk); (try clear hi))))
     go_ret
     exact ⟨by first | rfl | (simp [errW_none, errW_some] <;> rfl) | (simp [*, errW_none, errW_some] <;> rfl), by repeat (first | (with_reducible first | exact HB.out | apply below_alloc | apply pw_below_drewN | apply below_drew1) | exact HB.out)⟩

end Go.Proofs.YtcapmfgamdiijaaDoor.PX

namespace Go.Proofs.YtcapmfgamdiijaaDoor.PX
open Go.RowKit Go.Proofs.YtcapmfgamdiijaaDoorW.PrintWords Go.Proofs.YtcapmfgamdiijaaDoorW.PrintLast Go.Proofs.YtcapmfgamdiijaaDoorW.PrintMore
attribute [local go_sem] max2_int min2_int max_two min_two max_three min_three max_four min_four   -- for this text's walks alone
set_option linter.unusedVariables false
set_option linter.unusedSimpArgs false

/-! ### spec_l6Untree: function 119 -/
mutual
def spec_l6Untree.l0 : Nat → List (S132) → List ByteArray → Int → Option ((List (S132)) × Bool)
 | 0, _, _, _ => none
 | k + 1, x4, x5, x6 => if x6 < (x5.length : Int) then (if 0 ≤ x6 then ((spec_l6Unline.f (rdOf ByteArray.empty x5 x6)).bind fun bt543 => ((spec_l6Split.f k bt543.1).bind fun t545 => (if bt543.2 = true then (spec_l6Untree.j1 k x4 x5 x6 t545 ((t545.length : Int) != 3)) else (spec_l6Untree.j1 k x4 x5 x6 t545 true)))) else (none)) else ((spec_TreeFault.f k x4).bind fun t541 => (some (x4, (t541 == 0))))
def spec_l6Untree.j1 : Nat → List (S132) → List ByteArray → Int → List ByteArray → Bool → Option ((List (S132)) × Bool)
 | 0, _, _, _, _, _ => none
 | k + 1, x4, x5, x6, x9, x37 => if x37 = true then (some (([] : List (S132)), false)) else (if 2 < (x9.length : Int) then (if 1 < (x9.length : Int) then (spec_l6Untree.l1 k x4 x5 x6 x9 1 (rdOf ByteArray.empty x9 2) 0 (rdOf ByteArray.empty x9 1)) else (none)) else (none))
def spec_l6Untree.l1 : Nat → List (S132) → List ByteArray → Int → List ByteArray → Int → ByteArray → Int → ByteArray → Option ((List (S132)) × Bool)
 | 0, _, _, _, _, _, _, _, _ => none
 | k + 1, x4, x5, x6, x9, x11, x551000, x551001, x551002 => if x11 < 4 then ((spec_l6Words.f).bind fun t551 => (if 0 ≤ x11 then (if x11 < (t551.length : Int) then (if 0 < (x9.length : Int) then (if (rdOf ByteArray.empty t551 x11).toList = (rdOf ByteArray.empty x9 0).toList then (spec_l6Untree.l1 k x4 x5 x6 x9 (wrap64 (x11 + 1)) x551000 x11 x551002) else (spec_l6Untree.l1 k x4 x5 x6 x9 (wrap64 (x11 + 1)) x551000 x551001 x551002)) else (none)) else (none)) else (none))) else (if x4.length < 3518437208883 then (spec_l6Untree.l0 k (x4 ++ [(⟨x551000, x551001, x551002⟩ : S132)]) x5 (wrap64 (x6 + 1))) else (none))
end
def spec_l6Untree.f (k : Nat) (a0 : ByteArray) : Option ((List (S132)) × Bool) := (spec_l1Split.f k a0).bind fun t538 => (spec_l6Untree.l0 k (([] : List (S132))) t538 0)
theorem spec_l6Untree.mono_l : ∀ k, (∀ y0 y1 y2, LeO (spec_l6Untree.l0 k y0 y1 y2) (spec_l6Untree.l0 (k + 1) y0 y1 y2)) ∧ (∀ y0 y1 y2 y3 y4, LeO (spec_l6Untree.j1 k y0 y1 y2 y3 y4) (spec_l6Untree.j1 (k + 1) y0 y1 y2 y3 y4)) ∧ (∀ y0 y1 y2 y3 y4 y5 y6 y7, LeO (spec_l6Untree.l1 k y0 y1 y2 y3 y4 y5 y6 y7) (spec_l6Untree.l1 (k + 1) y0 y1 y2 y3 y4 y5 y6 y7))
 | 0 => ⟨fun _ _ _ r h => by simp [spec_l6Untree.l0] at h, fun _ _ _ _ _ r h => by simp [spec_l6Untree.j1] at h, fun _ _ _ _ _ _ _ _ r h => by simp [spec_l6Untree.l1] at h⟩
 | k + 1 => by
  obtain ⟨ih0, ih1, ih2⟩ := spec_l6Untree.mono_l k
  refine ⟨?_, ?_, ?_⟩
  ·
   intro y0 y1 y2
   unfold spec_l6Untree.l0
   repeat' first
   | (with_reducible exact ih0 _ _ _)
   | (with_reducible exact ih1 _ _ _ _ _)
   | (with_reducible exact ih2 _ _ _ _ _ _ _ _)
   | (with_reducible exact spec_TreeFault.mono _ _)
   | (with_reducible exact spec_l1Split.mono _ _)
   | (with_reducible exact spec_l6Split.mono _ _)
   | (with_reducible exact LeO.refl _)
   | (with_reducible exact LeO.none _)
   | (with_reducible refine LeO.ite ?_ ?_)
   | (with_reducible refine LeO.bind ?_ (fun _ => ?_))
   | exact ih0 _ _ _
   | exact ih1 _ _ _ _ _
   | exact ih2 _ _ _ _ _ _ _ _
   | exact spec_TreeFault.mono _ _
   | exact spec_l1Split.mono _ _
   | exact spec_l6Split.mono _ _
   | exact LeO.none _
   | refine LeO.ite ?_ ?_
   | refine LeO.bind ?_ (fun _ => ?_)
  ·
   intro y0 y1 y2 y3 y4
   unfold spec_l6Untree.j1
   repeat' first
   | (with_reducible exact ih0 _ _ _)
   | (with_reducible exact ih1 _ _ _ _ _)
   | (with_reducible exact ih2 _ _ _ _ _ _ _ _)
   | (with_reducible exact spec_TreeFault.mono _ _)
   | (with_reducible exact spec_l1Split.mono _ _)
   | (with_reducible exact spec_l6Split.mono _ _)
   | (with_reducible exact LeO.refl _)
   | (with_reducible exact LeO.none _)
   | (with_reducible refine LeO.ite ?_ ?_)
   | (with_reducible refine LeO.bind ?_ (fun _ => ?_))
   | exact ih0 _ _ _
   | exact ih1 _ _ _ _ _
   | exact ih2 _ _ _ _ _ _ _ _
   | exact spec_TreeFault.mono _ _
   | exact spec_l1Split.mono _ _
   | exact spec_l6Split.mono _ _
   | exact LeO.none _
   | refine LeO.ite ?_ ?_
   | refine LeO.bind ?_ (fun _ => ?_)
  ·
   intro y0 y1 y2 y3 y4 y5 y6 y7
   unfold spec_l6Untree.l1
   repeat' first
   | (with_reducible exact ih0 _ _ _)
   | (with_reducible exact ih1 _ _ _ _ _)
   | (with_reducible exact ih2 _ _ _ _ _ _ _ _)
   | (with_reducible exact spec_TreeFault.mono _ _)
   | (with_reducible exact spec_l1Split.mono _ _)
   | (with_reducible exact spec_l6Split.mono _ _)
   | (with_reducible exact LeO.refl _)
   | (with_reducible exact LeO.none _)
   | (with_reducible refine LeO.ite ?_ ?_)
   | (with_reducible refine LeO.bind ?_ (fun _ => ?_))
   | exact ih0 _ _ _
   | exact ih1 _ _ _ _ _
   | exact ih2 _ _ _ _ _ _ _ _
   | exact spec_TreeFault.mono _ _
   | exact spec_l1Split.mono _ _
   | exact spec_l6Split.mono _ _
   | exact LeO.none _
   | refine LeO.ite ?_ ?_
   | refine LeO.bind ?_ (fun _ => ?_)
theorem spec_l6Untree.mono : ∀ a0 k, LeO (spec_l6Untree.f k a0) (spec_l6Untree.f (k + 1) a0) := by
 intro a0 k
 obtain ⟨ih0, ih1, ih2⟩ := spec_l6Untree.mono_l k
 unfold spec_l6Untree.f
 repeat' first
   | (with_reducible exact ih0 _ _ _)
   | (with_reducible exact ih1 _ _ _ _ _)
   | (with_reducible exact ih2 _ _ _ _ _ _ _ _)
   | (with_reducible exact spec_TreeFault.mono _ _)
   | (with_reducible exact spec_l1Split.mono _ _)
   | (with_reducible exact spec_l6Split.mono _ _)
   | (with_reducible exact LeO.refl _)
   | (with_reducible exact LeO.none _)
   | (with_reducible refine LeO.ite ?_ ?_)
   | (with_reducible refine LeO.bind ?_ (fun _ => ?_))
   | exact ih0 _ _ _
   | exact ih1 _ _ _ _ _
   | exact ih2 _ _ _ _ _ _ _ _
   | exact spec_TreeFault.mono _ _
   | exact spec_l1Split.mono _ _
   | exact spec_l6Split.mono _ _
   | exact LeO.none _
   | refine LeO.ite ?_ ?_
   | refine LeO.bind ?_ (fun _ => ?_)
def spec_l6Untree.T10 : Bool × List (List Nat × List Nat) := (true, [([], []), ([0], [0]), ([1], [1]), ([], []), ([3], [3]), ([4], [4]), ([2, 5], [2, 5]), ([], []), ([7, 6, 0, 1, 2, 3, 4, 5, 6, 7], [6, 7])])
def spec_l6Untree.B10 : List Nat := [0, 1, 3, 0, 8, 24, 63, 0, 255]
theorem spec_l6Untree.tab10 : rtab .any (opsOf Tryd.f119 10) = spec_l6Untree.T10 := by kernel_rfl
theorem spec_l6Untree.bits10 : waitsOk spec_l6Untree.T10.2 spec_l6Untree.B10 = true := by kernel_rfl
def spec_l6Untree.T14 : Bool × List (List Nat × List Nat) := (true, [([], []), ([], []), ([0, 1], [0, 1]), ([2], [2]), ([], []), ([4], [4]), ([5], [5]), ([3, 6], [3, 6])])
def spec_l6Untree.B14 : List Nat := [0, 0, 3, 7, 0, 16, 48, 127]
theorem spec_l6Untree.tab14 : rtab .any (opsOf Tryd.f119 14) = spec_l6Untree.T14 := by kernel_rfl
theorem spec_l6Untree.bits14 : waitsOk spec_l6Untree.T14.2 spec_l6Untree.B14 = true := by kernel_rfl
set_option maxHeartbeats 8000000 in
set_option maxRecDepth 100000 in
theorem spec_l6Untree.calls (k : Nat) (a0 : ByteArray) (r1 : List (S132)) (r2 : Bool) (w : World) (h : spec_l6Untree.f k a0 = some (r1, r2)) :
  Calls Tryd.prog 119 #[.string a0] w fun e w' => ∃ v0_ : Value, e = .returned (.tuple #[v0_, .bool r2]) ∧ Kd.R k132 132 w' w.heap.size (fun _ => True) v0_ r1 ∧ Below w.heap.size w w' := by
 have hu132 := Tryd.underlying132
 have HB := Aside0.mk (Below.refl w.heap.size w)
 have H : ((spec_l1Split.f k a0).bind fun t538 => (spec_l6Untree.l0 k (([] : List (S132))) t538 0)) = some (r1, r2) := h
 clear h
 obtain ⟨y535, hy535⟩ : ∃ y_ : List (S132), y_ = (([] : List (S132))) := ⟨_, rfl⟩
 replace H : ((spec_l1Split.f k a0).bind fun t538 => (spec_l6Untree.l0 k y535 t538 0)) = some (r1, r2) := by first | (rw [hy535]; with_reducible exact H) | (have H2_ := (Option.bind_some _ _).symm.trans H; rw [hy535]; with_reducible exact H2_) | (have H2_ := (Option.bind_some _ _).symm.trans H; with_reducible exact H2_) | with_reducible exact H | (rw [hy535]; exact H) | exact H
 have Ny535 := Aside0.mk hy535
 clear hy535
 replace H := Option.bind_eq_some_iff.mp H
 obtain ⟨t538, A20, H⟩ := H
 replace H : (spec_l6Untree.l0 k y535 t538 0) = some (r1, r2) := H
 have A2 := Aside0.mk A20
 clear A20
 have H' := Aside0.mk H
 clear H
 go_enter Tryd.func119, Tryd.ntmps119
 go_wp2_with (first | ((with_reducible refine gate_dst (N := 12) rfl ?_); (try (refine gate_guard (by rfl) ?_; dsimp only)); refine Kd.R_lit k132 _ 132 ?hg (N := 12) ?hd (xs := ([] : List (S132))) (inner := []) (ok := fun _ => True) (okp := fun _ => True) ?hr ?hp (fun _ hk => hk) trivial (Below.refl _ _) (Nat.le_refl _) (by simp) ?_; (case hd => rfl); (case hg => rfl); (case hr => first | (go_simp; done) | (go_simp; rfl)); (case hp => exact (Reps.none _ _)); intro v536 w3 ho4 hb hg_ hnew_; clear hg_ hnew_; (first | rw [← Ny535.out] at ho4 | (simp only [Int.reduceToNat] at ho4; rw [← Ny535.out] at ho4)); have n0_ := Aside0.mk (Kd.R_lower ho4 (below_size (by repeat (first | (with_reducible first | exact HB.out | apply below_alloc | apply pw_below_drewN | apply below_drew1) | exact HB.out)))); have n1_ := Aside0.mk (below_step (by repeat (first | (with_reducible first | exact HB.out | apply below_alloc | apply pw_below_drewN | apply below_drew1) | exact HB.out)) hb); clear HB; have HO537 := n0_; have HB := n1_; clear n0_ n1_; clear hb ho4) | ((with_reducible refine gate_callee (f := 134) rfl ?_); refine goesL_ (some 14) rfl rfl Tryd.func134 (by kernel_rfl) rfl #[.string a0] rfl (by (try simp only [List.map_toArray, List.map_cons, List.map_nil]); first | done | rfl | (simp only [List.length_drop, List.length_take]; rfl)) ?_; (with_reducible refine (spec_l1Split.calls k a0 t538 _ A2.out).mono ?_); rintro e w5 ⟨v539, rfl, ho0, hb⟩; refine ⟨_, rfl, ?_⟩; have n0_ := Aside0.mk (Kd.R_below (by (with_reducible repeat (first | apply Kd.R_alloc | apply Kd.R_drewN | apply Kd.R_drew)); exact HO537.out) hb); have n1_ := Aside0.mk (Kd.R_lower ho0 (below_size (by repeat (first | (with_reducible first | exact HB.out | apply below_alloc | apply pw_below_drewN | apply below_drew1) | exact HB.out)))); have n2_ := Aside0.mk (below_step (by repeat (first | (with_reducible first | exact HB.out | apply below_alloc | apply pw_below_drewN | apply below_drew1) | exact HB.out)) hb); clear HO537; clear HB; have HO537 := n0_; have HO540 := n1_; have HB := n2_; clear n0_ n1_ n2_; (try clear hb); (try clear hb2); (try clear hk); (try clear hi); (try clear ho0)))
 go_loopg [4, 6] k (fun kq v4 v6 w' => ∃ (x4_1 : List (S132)) (x6_1 : Int), v6 = .int .i64 x6_1 ∧ Aside0 (spec_l6Untree.l0 kq x4_1 t538 x6_1 = some (r1, r2)) ∧ Aside0 (kq ≤ k) ∧ Aside0 (Kd.R k132 132 w' w.heap.size (fun _ => True) v4 x4_1) ∧ Aside0 (Kd.R Kd.string 9 w' w.heap.size (fun _ => True) v539 t538) ∧ Aside0 (Below w.heap.size w w'))
 case atStart => exact ⟨(y535), (0), (by first | rfl | (simp; done) | (simp [*]; done)), H', ⟨Nat.le_refl _⟩, ⟨by (with_reducible repeat (first | apply Kd.R_alloc | apply Kd.R_drewN | apply Kd.R_drew)); exact HO537.out⟩, ⟨by (with_reducible repeat (first | apply Kd.R_alloc | apply Kd.R_drewN | apply Kd.R_drew)); exact HO540.out⟩, ⟨by repeat (first | (with_reducible first | exact HB.out | apply below_alloc | apply pw_below_drewN | apply below_drew1) | exact HB.out)⟩⟩
 case round =>
  clear H'
  try clear c1
  try clear p2
  obtain ⟨x4_1, x6_1, rfl, HA, HK1, HO_4, HO_5, HB⟩ := hrel
  cases gk with
  | zero => exact absurd HA.out (by simp [spec_l6Untree.l0])
  | succ k1 =>
   have H := HA.out
   clear HA
   simp only [spec_l6Untree.l0] at H
   by_cases c6 : x6_1 < (t538.length : Int)
   ·
    rw [if_pos c6] at H
    have c6b0 : decide (x6_1 < (t538.length : Int)) = true := decide_eq_true c6
    clear c6
    by_cases c7 : 0 ≤ x6_1
    ·
     rw [if_pos c7] at H
     have c7b0 : decide (0 ≤ x6_1) = true := decide_eq_true c7
     clear c7
     replace H := Option.bind_eq_some_iff.mp H
     obtain ⟨⟨t543, t544⟩, A80, H⟩ := H
     replace H : ((spec_l6Split.f k1 t543).bind fun t545 => (if t544 = true then (spec_l6Untree.j1 k1 x4_1 t538 x6_1 t545 ((t545.length : Int) != 3)) else (spec_l6Untree.j1 k1 x4_1 t538 x6_1 t545 true))) = some (r1, r2) := H
     have A8 := Aside0.mk A80
     clear A80
     replace H := Option.bind_eq_some_iff.mp H
     obtain ⟨t545, A90, H⟩ := H
     replace H : (if t544 = true then (spec_l6Untree.j1 k1 x4_1 t538 x6_1 t545 ((t545.length : Int) != 3)) else (spec_l6Untree.j1 k1 x4_1 t538 x6_1 t545 true)) = some (r1, r2) := H
     have A9 := Aside0.mk A90
     clear A90
     have HC10 := Aside0.mk H
     clear H
     obtain ⟨Ao11, co11, eo11⟩ := Kd.R_slice HO_5.out
     subst eo11
     have p542 : 0 ≤ (x6_1 : Int) := of_decide_eq_true (by first | (with_reducible assumption) | assumption)
     have q542 : x6_1 < (t538.length : Int) := of_decide_eq_true (by first | (with_reducible assumption) | assumption)
     obtain ⟨ad542, e542, hx542_0⟩ := Kd.at_string (Kd.R_reads' HO_5.out).2.2 x6_1 p542 q542
     cases e542
     replace p542 := eq_true p542
     replace q542 := eq_true q542
     go_upto_region 8 with (first | ((with_reducible refine gate_callee (f := 158) rfl ?_); refine goesL_ (some 26) rfl rfl Tryd.func158 (by kernel_rfl) rfl #[.string (rdOf ByteArray.empty t538 x6_1)] rfl (by (try simp only [List.map_toArray, List.map_cons, List.map_nil]); first | done | rfl | (simp only [List.length_drop, List.length_take]; rfl)) ?_; (with_reducible refine (spec_l6Unline.calls (rdOf ByteArray.empty t538 x6_1) t543 t544 _ A8.out).mono ?_); rintro e w' ⟨rfl, ⟨nd, rfl⟩⟩; refine ⟨_, rfl, ?_⟩) | ((with_reducible refine gate_callee (f := 159) rfl ?_); refine goesL_ (some 30) rfl rfl Tryd.func159 (by kernel_rfl) rfl #[.string t543] rfl (by (try simp only [List.map_toArray, List.map_cons, List.map_nil]); first | done | rfl | (simp only [List.length_drop, List.length_take]; rfl)) ?_; (with_reducible refine (spec_l6Split.calls k1 t543 t545 _ A9.out).mono ?_); rintro e w12 ⟨v546, rfl, ho0, hb⟩; refine ⟨_, rfl, ?_⟩; have n0_ := Aside0.mk (Kd.R_below (by (with_reducible repeat (first | apply Kd.R_alloc | apply Kd.R_drewN | apply Kd.R_drew)); exact HO_4.out) hb); have n1_ := Aside0.mk (Kd.R_elder' (by (with_reducible repeat (first | apply Kd.R_alloc | apply Kd.R_drewN | apply Kd.R_drew)); exact HO_5.out) (Kd.R_base ho0) hb); have n2_ := Aside0.mk (Kd.R_lower (Kd.R_new' ho0 (Kd.R_lt (by (with_reducible repeat (first | apply Kd.R_alloc | apply Kd.R_drewN | apply Kd.R_drew)); exact HO_5.out))) (below_size (by repeat (first | (with_reducible first | exact HB.out | apply below_alloc | apply pw_below_drewN | apply below_drew1) | exact HB.out)))); have n3_ := Aside0.mk (below_step (by repeat (first | (with_reducible first | exact HB.out | apply below_alloc | apply pw_below_drewN | apply below_drew1) | exact HB.out)) hb); clear HO_4; clear HO_5; clear HB; have HO_4 := n0_; have HO_5 := n1_; have HO547 := n2_; have HB := n3_; clear n0_ n1_ n2_ n3_; (try clear hb); (try clear hb2); (try clear hk); (try clear hi); (try clear ho0)))
     (try simp only [Act.put, List.setIfInBounds_toArray, List.set_cons_zero, List.set_cons_succ])
     go_cut [37] (fun v37 wc => ∃ (kq : Nat) (x37_9 : Bool), v37 = .bool x37_9 ∧ Aside0 (spec_l6Untree.j1 kq x4_1 t538 x6_1 t545 x37_9 = some (r1, r2)) ∧ Aside0 (kq ≤ k1) ∧ Aside0 (Kd.R k132 132 wc w.heap.size (fun _ => True) u4 x4_1) ∧ Aside0 (Kd.R Kd.string 9 wc w.heap.size (fun k_ => some k_ ≠ (v546 : Value).ownBlock) (.slice (some ad542) t538.length co11) t538) ∧ Aside0 (Kd.R Kd.string 9 wc w.heap.size (fun k_ => some k_ ≠ ((.slice (some ad542) t538.length co11) : Value).ownBlock) v546 t545) ∧ Aside0 (Below w.heap.size w wc))
     case first =>
      have H := HC10.out
      clear HC10
      by_cases c13 : t544 = true
      ·
       subst c13
       have H1 : (spec_l6Untree.j1 k1 x4_1 t538 x6_1 t545 ((t545.length : Int) != 3)) = some (r1, r2) := by rw [if_pos rfl] at H; exact H
       clear H
       have H := H1
       clear H1
       have H' := Aside0.mk H
       clear H
       obtain ⟨Ao14, co14, eo14⟩ := Kd.R_slice HO547.out
       subst eo14
       go_wp2
       go_meet
       case rel => exact ⟨_, (((t545.length : Int) != 3)), (by first | rfl | (simp; done) | (simp [*]; done)), H', ⟨by have := HK1.out; first | omega | exact Nat.le_refl _⟩, ⟨by (with_reducible repeat (first | apply Kd.R_alloc | apply Kd.R_drewN | apply Kd.R_drew)); exact HO_4.out⟩, ⟨by (with_reducible repeat (first | apply Kd.R_alloc | apply Kd.R_drewN | apply Kd.R_drew)); exact Kd.R_mono HO_5.out (fun _ hk => hk.2)⟩, ⟨by (with_reducible repeat (first | apply Kd.R_alloc | apply Kd.R_drewN | apply Kd.R_drew)); exact Kd.R_mono HO547.out (fun _ hk => hk.2)⟩, ⟨by repeat (first | (with_reducible first | exact HB.out | apply below_alloc | apply pw_below_drewN | apply below_drew1) | exact HB.out)⟩⟩
      ·
       replace c13 := Bool.eq_false_iff.mpr c13
       subst c13
       have H1 : (spec_l6Untree.j1 k1 x4_1 t538 x6_1 t545 true) = some (r1, r2) := by rw [if_neg (show ¬ (false = true) by decide)] at H; exact H
       clear H
       have H := H1
       clear H1
       have H' := Aside0.mk H
       clear H
       go_wp2
       go_meet
       case rel => exact ⟨_, (true), (by first | rfl | (simp; done) | (simp [*]; done)), H', ⟨by have := HK1.out; first | omega | exact Nat.le_refl _⟩, ⟨by (with_reducible repeat (first | apply Kd.R_alloc | apply Kd.R_drewN | apply Kd.R_drew)); exact HO_4.out⟩, ⟨by (with_reducible repeat (first | apply Kd.R_alloc | apply Kd.R_drewN | apply Kd.R_drew)); exact Kd.R_mono HO_5.out (fun _ hk => hk.2)⟩, ⟨by (with_reducible repeat (first | apply Kd.R_alloc | apply Kd.R_drewN | apply Kd.R_drew)); exact Kd.R_mono HO547.out (fun _ hk => hk.2)⟩, ⟨by repeat (first | (with_reducible first | exact HB.out | apply below_alloc | apply pw_below_drewN | apply below_drew1) | exact HB.out)⟩⟩
     case rest =>
      clear HC10
      try clear c1
      try clear p2
      try clear p5
      try clear q5
      try clear hx5
      try clear c6
      try clear c6b0
      try clear c7
      try clear c7b0
      try clear c11
      try clear c13
      try clear hx542_0
      try clear p2
      try clear p542
      try clear q542
      obtain ⟨kq, x37_9, rfl, HA, HJ9, HO_4, HO_5, HO_9, HB⟩ := hcut
      cases kq with
      | zero => exact absurd HA.out (by simp [spec_l6Untree.j1])
      | succ kj9 =>
       have H := HA.out
       clear HA
       simp only [spec_l6Untree.j1] at H
       by_cases c15 : x37_9 = true
       ·
        subst c15
        have H1 : (some (([] : List (S132)), false)) = some (r1, r2) := by rw [if_pos rfl] at H; exact H
        clear H
        have H := H1
        clear H1
        simp only [Option.some.injEq, Prod.mk.injEq] at H
        obtain ⟨rfl, rfl⟩ := H
        go_wp2
        go_ret2
        exact ⟨_, by first | rfl | (simp [errW_none, errW_some] <;> rfl) | (simp [*, errW_none, errW_some] <;> rfl), by first | exact Kd.R_nil _ _ _ _ _ | exact Kd.N_nil _ _ _ _ _ | exact Kd.V_nil _ _ _ _ _ | exact Kd.Q_nil _ _ _ _ _ | exact Kd.S_nil _ _ _ _ _, by repeat (first | (with_reducible first | exact HB.out | apply below_alloc | apply pw_below_drewN | apply below_drew1) | exact HB.out)⟩
       ·
        replace c15 := Bool.eq_false_iff.mpr c15
        subst c15
        have H1 : (if 2 < (t545.length : Int) then (if 1 < (t545.length : Int) then (spec_l6Untree.l1 kj9 x4_1 t538 x6_1 t545 1 (rdOf ByteArray.empty t545 2) 0 (rdOf ByteArray.empty t545 1)) else (none)) else (none)) = some (r1, r2) := by rw [if_neg (show ¬ (false = true) by decide)] at H; exact H
        clear H
        have H := H1
        clear H1
        by_cases c16 : 2 < (t545.length : Int)
        ·
         rw [if_pos c16] at H
         have c16b0 : decide (2 < (t545.length : Int)) = true := decide_eq_true c16
         have c16b1 : decide (2 < t545.length) = true := decide_eq_true (by omega)
         clear c16
         by_cases c17 : 1 < (t545.length : Int)
         ·
          rw [if_pos c17] at H
          have c17b0 : decide (1 < (t545.length : Int)) = true := decide_eq_true c17
          have c17b1 : decide (1 < t545.length) = true := decide_eq_true (by omega)
          clear c17
          have H' := Aside0.mk H
          clear H
          try go_wp2
          have n0_ := Aside0.mk (Kd.R_drew HO_4.out)
          have n1_ := Aside0.mk (Kd.R_drew HO_5.out)
          have n2_ := Aside0.mk (Kd.R_drew HO_9.out)
          have n3_ := Aside0.mk (below_drew1 HB.out)
          clear HO_4
          clear HO_5
          clear HO_9
          clear HB
          have HO_4 := n0_
          have HO_5 := n1_
          have HO_9 := n2_
          have HB := n3_
          clear n0_ n1_ n2_ n3_
          obtain ⟨Ao19, co19, eo19⟩ := Kd.R_slice HO_9.out
          (first | subst eo19 | (injection eo19 with f1_ f2_ f3_; have f4_ := f1_.symm; have f5_ := f3_.symm; clear f1_ f2_ f3_; subst f4_; subst f5_))
          have p548 : 0 ≤ (2 : Int) := (by omega)
          have q548 : 2 < (t545.length : Int) := of_decide_eq_true (by first | (with_reducible assumption) | assumption)
          obtain ⟨ad548, e548, hx548_0⟩ := Kd.at_string (Kd.R_reads' HO_9.out).2.2 2 p548 q548
          cases e548
          (try simp only [show (2 : Int).toNat = 2 from rfl, Nat.reduceMul, Nat.reduceEqDiff, Go.Addr.add, ↓reduceIte] at hx548_0)
          have qi548 : (2 < t545.length) = True := eq_true (by omega)
          (try rw [show ((2 : Int)).toNat = 2 from rfl] at hx548_0)
          replace p548 := eq_true p548
          replace q548 := eq_true q548
          have p549 : 0 ≤ (1 : Int) := (by omega)
          have q549 : 1 < (t545.length : Int) := of_decide_eq_true (by first | (with_reducible assumption) | assumption)
          obtain ⟨ad549, e549, hx549_0⟩ := Kd.at_string (Kd.R_reads' HO_9.out).2.2 1 p549 q549
          obtain rfl : ad548 = ad549 := (by injection e549)
          (try simp only [show (1 : Int).toNat = 1 from rfl, Nat.reduceMul, Nat.reduceEqDiff, Go.Addr.add, ↓reduceIte] at hx549_0)
          have qi549 : (1 < t545.length) = True := eq_true (by omega)
          (try rw [show ((1 : Int)).toNat = 1 from rfl] at hx549_0)
          replace p549 := eq_true p549
          replace q549 := eq_true q549
          refine start_ (n := 9) (S := fun w' => w'.cell? ⟨ad548.block, ad548.off + 2, none⟩ = some (.string (rdOf ByteArray.empty t545 2)) ∧ w'.cell? ⟨ad548.block, ad548.off + 1, none⟩ = some (.string (rdOf ByteArray.empty t545 1))) (ds := []) #[false, false, false, false, false, false, false, false, false] (by kernel_rfl) rfl rfl ⟨hx548_0, hx549_0⟩ (fun hHeld => ?_); refine with_tabW spec_l6Untree.tab10 spec_l6Untree.bits10 (fun HT_ HW_ => ?_)
          generalize wc.drew = w18 at HO_4 HO_5 HO_9 HB hx548_0 hx549_0 hHeld ⊢
          refine pure_ (i := 0) (N := some 38) (v := ?_) (a' := ?_) #[true, false, false, false, false, false, false, false, false] rfl rfl (any_of HT_.out (by kernel_rfl)) (fun _ _ _ h => h) (Or.inl ⟨by rfl, ?_⟩) ?_ ?_
          rotate_left
          ·
           intro w'
           go_simp
           with_reducible rfl
          rotate_left
          ·
           simp only [Act.put, List.setIfInBounds_toArray, List.set_cons_zero, List.set_cons_succ, i64_w, i32_w]
           rfl
          refine pure_ (i := 1) (N := some 39) (v := ?_) (a' := ?_) #[true, true, false, false, false, false, false, false, false] rfl rfl (any_of HT_.out (by kernel_rfl)) (fun _ _ _ h => h) (Or.inl ⟨by rfl, ?_⟩) ?_ ?_
          rotate_left
          ·
           intro w'
           go_simp
           with_reducible rfl
          rotate_left
          ·
           simp only [Act.put, List.setIfInBounds_toArray, List.set_cons_zero, List.set_cons_succ, i64_w, i32_w]
           rfl
          refine pure_ (i := 3) (N := some 41) (v := ?_) (a' := ?_) #[true, true, false, true, false, false, false, false, false] rfl rfl (any_of HT_.out (by kernel_rfl)) (fun _ _ _ h => h) (Or.inl ⟨by rfl, ?_⟩) ?_ ?_
          rotate_left
          ·
           intro w'
           go_simp
           with_reducible rfl
          rotate_left
          ·
           simp only [Act.put, List.setIfInBounds_toArray, List.set_cons_zero, List.set_cons_succ, i64_w, i32_w]
           rfl
          refine pure_ (i := 4) (N := some 42) (v := ?_) (a' := ?_) #[true, true, false, true, true, false, false, false, false] rfl rfl (any_of HT_.out (by kernel_rfl)) (fun _ _ _ h => h) (Or.inl ⟨by rfl, ?_⟩) ?_ ?_
          rotate_left
          ·
           intro w'
           go_simp
           with_reducible rfl
          rotate_left
          ·
           simp only [Act.put, List.setIfInBounds_toArray, List.set_cons_zero, List.set_cons_succ, i64_w, i32_w]
           rfl
          refine take_ (i := 2) (N := some 40) (v := ?_) (a' := ?_) #[true, true, true, true, true, false, false, false, false] rfl rfl (take_ofW HT_.out HW_.out (by kernel_rfl)) (fun _ _ _ h => h) (Or.inl ⟨by rfl, ?_⟩) hHeld ?_ ?_
          rotate_left
          ·
           rintro w' ⟨s0, s1⟩
           go_simp
           with_reducible rfl
          rotate_left
          ·
           simp only [Act.put, List.setIfInBounds_toArray, List.set_cons_zero, List.set_cons_succ, i64_w, i32_w]
           rfl
          refine take_ (i := 5) (N := some 43) (v := ?_) (a' := ?_) #[true, true, true, true, true, true, false, false, false] rfl rfl (take_ofW HT_.out HW_.out (by kernel_rfl)) (fun _ _ _ h => h) (Or.inl ⟨by rfl, ?_⟩) hHeld ?_ ?_
          rotate_left
          ·
           rintro w' ⟨s0, s1⟩
           go_simp
           with_reducible rfl
          rotate_left
          ·
           simp only [Act.put, List.setIfInBounds_toArray, List.set_cons_zero, List.set_cons_succ, i64_w, i32_w]
           rfl
          refine pure_ (i := 6) (N := some 44) (v := ?_) (a' := ?_) #[true, true, true, true, true, true, true, false, false] rfl rfl (any_of HT_.out (by kernel_rfl)) (fun _ _ _ h => h) (Or.inl ⟨by rfl, ?_⟩) ?_ ?_
          rotate_left
          ·
           intro w'
           go_simp
           with_reducible rfl
          rotate_left
          ·
           simp only [Act.put, List.setIfInBounds_toArray, List.set_cons_zero, List.set_cons_succ, i64_w, i32_w]
           rfl
          refine one_ (i := 7) (N := some 10) #[true, true, true, true, true, true, true, true, false] rfl rfl (one_of HT_.out (by kernel_rfl)) (by decide) (fun K hK => ?_)
          refine box_step ?hg (N := 10) ?hd (cs := #[.string (⟨#[]⟩ : ByteArray), .int .i64 0, .string (⟨#[]⟩ : ByteArray)]) (t := 132) ?hr ?_; (case hd => rfl); (case hg => rfl); (case hr => first | (go_simp; done) | (go_simp; rfl))
          intro gb550 hg w20 hbox hb
          have HS0_ := (hb.cell (World.block_lt_of_cell? _ _ (hHeld.1))).trans (hHeld.1)
          have HS1_ := (hb.cell (World.block_lt_of_cell? _ _ (hHeld.2))).trans (hHeld.2)
          have n0_ := Aside0.mk (Kd.R_below (Kd.R_elderB (by (with_reducible repeat (first | apply Kd.R_alloc | apply Kd.R_drewN | apply Kd.R_drew)); exact HO_4.out) gb550 (Nat.le_of_eq hg.symm)) hb)
          have n1_ := Aside0.mk (Kd.R_below (by (with_reducible repeat (first | apply Kd.R_alloc | apply Kd.R_drewN | apply Kd.R_drew)); exact HO_5.out) hb)
          have n2_ := Aside0.mk (Kd.R_below (by (with_reducible repeat (first | apply Kd.R_alloc | apply Kd.R_drewN | apply Kd.R_drew)); exact HO_9.out) hb)
          have n3_ := Aside0.mk (below_step (by repeat (first | (with_reducible first | exact HB.out | apply below_alloc | apply pw_below_drewN | apply below_drew1) | exact HB.out)) hb)
          have n4_ := Aside0.mk (hbox)
          have n5_ := Aside0.mk ((by rw [hg]; exact (below_size (by repeat (first | (with_reducible first | exact HB.out | apply below_alloc | apply pw_below_drewN | apply below_drew1) | exact HB.out))) : w.heap.size ≤ gb550))
          have n6_ := Aside0.mk ((by rw [hg]; exact (below_size (by repeat (first | (with_reducible first | exact HB.out | apply below_alloc | apply pw_below_drewN | apply below_drew1) | exact HB.out))) : w.heap.size ≤ gb550))
          clear HO_4
          clear HO_5
          clear HO_9
          clear HB
          have HO_4 := n0_
          have HO_5 := n1_
          have HO_9 := n2_
          have HB := n3_
          have BK550 := n4_
          have GW550 := n5_
          have GE550 := n6_
          clear n0_ n1_ n2_ n3_ n4_ n5_ n6_
          clear hb hbox hg
          refine hK.out _ _ ⟨HS0_, HS1_⟩ (fun hHeld => ?_)
          clear hK K
          refine norm_ (a' := ?_) ?_ ?_
          rotate_left
          ·
           show Act.put _ (some 10) _ = _
           simp only [Act.put, List.setIfInBounds_toArray, List.set_cons_zero, List.set_cons_succ, i64_w, i32_w]
           rfl
          refine one_ (i := 8) (N := none) #[true, true, true, true, true, true, true, true, true] rfl rfl (one_of HT_.out (by kernel_rfl)) (by decide) (fun K hK => ?_)
          have hs21 : w20.cell? ⟨gb550, 0, none⟩ = some (.string (⟨#[]⟩ : ByteArray)) := (blk_cell BK550.out 0).trans rfl
          have hfs21 := blk_frozen BK550.out 0
          have hs22 : w20.cell? ⟨gb550, 1, none⟩ = some (.int .i64 0) := (blk_cell BK550.out 1).trans rfl
          have hfs22 := blk_frozen BK550.out 1
          have hs23 : w20.cell? ⟨gb550, 2, none⟩ = some (.string (⟨#[]⟩ : ByteArray)) := (blk_cell BK550.out 2).trans rfl
          have hfs23 := blk_frozen BK550.out 2
          refine skip_ (w1 := ?_) (by rfl) rfl ?_ ?_
          rotate_left
          ·
           go_simp
           rfl
          refine hK.out _ _ ⟨((cell_far (p := ⟨gb550, _, none⟩) (by first | exact Kd.own_blk (Kd.R_ne HO_9.out BK550.out (by decide)) | (rw [add_block]; exact Kd.own_blk (Kd.R_ne HO_9.out BK550.out (by decide))) | (show (Addr.add _ _).block ≠ _; rw [add_block]; exact Kd.own_blk (Kd.R_ne HO_9.out BK550.out (by decide))) | (dsimp only; exact Kd.own_blk (Kd.R_ne HO_9.out BK550.out (by decide)))) _).trans (((cell_far (p := ⟨gb550, _, none⟩) (by first | exact Kd.own_blk (Kd.R_ne HO_9.out BK550.out (by decide)) | (rw [add_block]; exact Kd.own_blk (Kd.R_ne HO_9.out BK550.out (by decide))) | (show (Addr.add _ _).block ≠ _; rw [add_block]; exact Kd.own_blk (Kd.R_ne HO_9.out BK550.out (by decide))) | (dsimp only; exact Kd.own_blk (Kd.R_ne HO_9.out BK550.out (by decide)))) _).trans (((cell_far (p := ⟨gb550, _, none⟩) (by first | exact Kd.own_blk (Kd.R_ne HO_9.out BK550.out (by decide)) | (rw [add_block]; exact Kd.own_blk (Kd.R_ne HO_9.out BK550.out (by decide))) | (show (Addr.add _ _).block ≠ _; rw [add_block]; exact Kd.own_blk (Kd.R_ne HO_9.out BK550.out (by decide))) | (dsimp only; exact Kd.own_blk (Kd.R_ne HO_9.out BK550.out (by decide)))) _).trans (hHeld.1)))))), ((cell_far (p := ⟨gb550, _, none⟩) (by first | exact Kd.own_blk (Kd.R_ne HO_9.out BK550.out (by decide)) | (rw [add_block]; exact Kd.own_blk (Kd.R_ne HO_9.out BK550.out (by decide))) | (show (Addr.add _ _).block ≠ _; rw [add_block]; exact Kd.own_blk (Kd.R_ne HO_9.out BK550.out (by decide))) | (dsimp only; exact Kd.own_blk (Kd.R_ne HO_9.out BK550.out (by decide)))) _).trans (((cell_far (p := ⟨gb550, _, none⟩) (by first | exact Kd.own_blk (Kd.R_ne HO_9.out BK550.out (by decide)) | (rw [add_block]; exact Kd.own_blk (Kd.R_ne HO_9.out BK550.out (by decide))) | (show (Addr.add _ _).block ≠ _; rw [add_block]; exact Kd.own_blk (Kd.R_ne HO_9.out BK550.out (by decide))) | (dsimp only; exact Kd.own_blk (Kd.R_ne HO_9.out BK550.out (by decide)))) _).trans (((cell_far (p := ⟨gb550, _, none⟩) (by first | exact Kd.own_blk (Kd.R_ne HO_9.out BK550.out (by decide)) | (rw [add_block]; exact Kd.own_blk (Kd.R_ne HO_9.out BK550.out (by decide))) | (show (Addr.add _ _).block ≠ _; rw [add_block]; exact Kd.own_blk (Kd.R_ne HO_9.out BK550.out (by decide))) | (dsimp only; exact Kd.own_blk (Kd.R_ne HO_9.out BK550.out (by decide)))) _).trans (hHeld.2))))))⟩ (fun hHeld => ?_)
          clear hK K
          refine done_ (done_of HT_.out (by kernel_rfl)) ?_
          try go_wp2
          go_loopg [11] kj9 (fun kq v11 w' => ∃ (x11_3 : Int) (x551001_3 : Int), v11 = .int .i64 x11_3 ∧ Aside0 (spec_l6Untree.l1 kq x4_1 t538 x6_1 t545 x11_3 (rdOf ByteArray.empty t545 2) x551001_3 (rdOf ByteArray.empty t545 1) = some (r1, r2)) ∧ Aside0 (kq ≤ kj9) ∧ Aside0 (Kd.R k132 132 w' w.heap.size (fun k_ => k_ ≠ gb550) u4 x4_1) ∧ Aside0 (Kd.R Kd.string 9 w' w.heap.size (fun k_ => some k_ ≠ ((.slice (some ad548) t545.length co19) : Value).ownBlock) (.slice (some ad542) t538.length co11) t538) ∧ Aside0 (Kd.R Kd.string 9 w' w.heap.size (fun k_ => some k_ ≠ ((.slice (some ad542) t538.length co11) : Value).ownBlock) (.slice (some ad548) t545.length co19) t545) ∧ Aside0 (w'.heap[gb550]? = some (.cells #[.string (rdOf ByteArray.empty t545 2), .int .i64 x551001_3, .string (rdOf ByteArray.empty t545 1)] 132 (0, 0))) ∧ Aside0 (Below w.heap.size w w'))
          case atStart => exact ⟨(1), (0), (by first | rfl | (simp; done) | (simp [*]; done)), H', ⟨Nat.le_refl _⟩, ⟨by (with_reducible repeat (first | apply Kd.R_alloc | apply Kd.R_drewN | apply Kd.R_drew)); exact Kd.R_mono (Kd.R_far (p := ⟨gb550, 2, none⟩) (Kd.R_far (p := ⟨gb550, 1, none⟩) (Kd.R_far (p := ⟨gb550, 0, none⟩) (Kd.R_mono HO_4.out (fun k_ hk => (⟨hk, hk.2⟩ : _ ∧ k_ ≠ gb550))) (fun _ hk => hk.2) (.string (rdOf ByteArray.empty t545 2))) (fun _ hk => hk.2) (.int .i64 0)) (fun _ hk => hk.2) (.string (rdOf ByteArray.empty t545 1))) (fun _ hk => hk.1.2)⟩, ⟨by (with_reducible repeat (first | apply Kd.R_alloc | apply Kd.R_drewN | apply Kd.R_drew)); exact Kd.R_mono (Kd.R_far (p := ⟨gb550, 2, none⟩) (Kd.R_far (p := ⟨gb550, 1, none⟩) (Kd.R_far (p := ⟨gb550, 0, none⟩) (Kd.R_types HO_5.out BK550.out (by decide)) (fun _ hk => hk.2) (.string (rdOf ByteArray.empty t545 2))) (fun _ hk => hk.2) (.int .i64 0)) (fun _ hk => hk.2) (.string (rdOf ByteArray.empty t545 1))) (fun _ hk => hk.1)⟩, ⟨by (with_reducible repeat (first | apply Kd.R_alloc | apply Kd.R_drewN | apply Kd.R_drew)); exact Kd.R_mono (Kd.R_far (p := ⟨gb550, 2, none⟩) (Kd.R_far (p := ⟨gb550, 1, none⟩) (Kd.R_far (p := ⟨gb550, 0, none⟩) (Kd.R_types HO_9.out BK550.out (by decide)) (fun _ hk => hk.2) (.string (rdOf ByteArray.empty t545 2))) (fun _ hk => hk.2) (.int .i64 0)) (fun _ hk => hk.2) (.string (rdOf ByteArray.empty t545 1))) (fun _ hk => hk.1)⟩, ⟨by (with_reducible repeat (first | refine blk_drewN ?_ _ | refine blk_drew ?_ | refine blk_alloc ?_ _)); refine blk_put (cs := #[.string (rdOf ByteArray.empty t545 2), .int .i64 0, .string (⟨#[]⟩ : ByteArray)]) ?_ 2 _ rfl; (with_reducible repeat (first | refine blk_drewN ?_ _ | refine blk_drew ?_ | refine blk_alloc ?_ _)); refine blk_put (cs := #[.string (rdOf ByteArray.empty t545 2), .int .i64 0, .string (⟨#[]⟩ : ByteArray)]) ?_ 1 _ rfl; (with_reducible repeat (first | refine blk_drewN ?_ _ | refine blk_drew ?_ | refine blk_alloc ?_ _)); refine blk_put (cs := #[.string (⟨#[]⟩ : ByteArray), .int .i64 0, .string (⟨#[]⟩ : ByteArray)]) ?_ 0 _ rfl; (with_reducible repeat (first | refine blk_drewN ?_ _ | refine blk_drew ?_ | refine blk_alloc ?_ _)); exact BK550.out⟩, ⟨by repeat (first | (with_reducible first | exact HB.out | apply below_alloc | apply pw_below_drewN | apply below_drew1 | refine below_set ?_ GE550.out) | exact HB.out)⟩⟩
          case round =>
           clear H'
           try clear c1
           try clear p2
           try clear p5
           try clear q5
           try clear hx5
           try clear qi5
           try clear c6
           try clear c6b0
           try clear c7
           try clear c7b0
           try clear c11
           try clear c13
           try clear c15
           try clear c16
           try clear c16b0
           try clear c16b1
           try clear c17
           try clear c17b0
           try clear c17b1
           try clear hx542_0
           try clear hx548_0
           try clear hx549_0
           try clear p2
           try clear p5
           try clear p542
           try clear p548
           try clear p549
           try clear q5
           try clear q542
           try clear q548
           try clear q549
           obtain ⟨x11_3, x551001_3, rfl, HA, HK3, HO_4, HO_5, HO_9, BK550, HB⟩ := hrel
           cases gk with
           | zero => exact absurd HA.out (by simp [spec_l6Untree.l1])
           | succ k3 =>
            have H := HA.out
            clear HA
            simp only [spec_l6Untree.l1] at H
            by_cases c24 : x11_3 < 4
            ·
             rw [if_pos c24] at H
             have c24b0 : decide (x11_3 < 4) = true := decide_eq_true c24
             clear c24
             replace H := Option.bind_eq_some_iff.mp H
             obtain ⟨t551, A250, H⟩ := H
             replace H : (if 0 ≤ x11_3 then (if x11_3 < (t551.length : Int) then (if 0 < (t545.length : Int) then (if (rdOf ByteArray.empty t551 x11_3).toList = (rdOf ByteArray.empty t545 0).toList then (spec_l6Untree.l1 k3 x4_1 t538 x6_1 t545 (wrap64 (x11_3 + 1)) (rdOf ByteArray.empty t545 2) x11_3 (rdOf ByteArray.empty t545 1)) else (spec_l6Untree.l1 k3 x4_1 t538 x6_1 t545 (wrap64 (x11_3 + 1)) (rdOf ByteArray.empty t545 2) x551001_3 (rdOf ByteArray.empty t545 1))) else (none)) else (none)) else (none)) = some (r1, r2) := H
             have A25 := Aside0.mk A250
             clear A250
             by_cases c26 : 0 ≤ x11_3
             ·
              rw [if_pos c26] at H
              have c26b0 : decide (0 ≤ x11_3) = true := decide_eq_true c26
              clear c26
              by_cases c27 : x11_3 < (t551.length : Int)
              ·
               rw [if_pos c27] at H
               have c27b0 : decide (x11_3 < (t551.length : Int)) = true := decide_eq_true c27
               clear c27
               by_cases c28 : 0 < (t545.length : Int)
               ·
                rw [if_pos c28] at H
                have c28b0 : decide (0 < (t545.length : Int)) = true := decide_eq_true c28
                have c28b1 : decide (0 < t545.length) = true := decide_eq_true (by omega)
                clear c28
                by_cases c29 : (rdOf ByteArray.empty t551 x11_3).toList = (rdOf ByteArray.empty t545 0).toList
                ·
                 rw [if_pos c29] at H
                 have c29b0 : ((rdOf ByteArray.empty t551 x11_3).toList == (rdOf ByteArray.empty t545 0).toList) = true := beq_iff_eq.mpr c29
                 have c29b1 : ((rdOf ByteArray.empty t551 x11_3).toList != (rdOf ByteArray.empty t545 0).toList) = false := bne_eq_false_iff_eq.mpr c29
                 clear c29
                 have H' := Aside0.mk H
                 clear H
                 try go_wp2
                 have n0_ := Aside0.mk (Kd.R_drew HO_4.out)
                 have n1_ := Aside0.mk (Kd.R_drew HO_5.out)
                 have n2_ := Aside0.mk (Kd.R_drew HO_9.out)
                 have n3_ := Aside0.mk (blk_drew BK550.out)
                 have n4_ := Aside0.mk (below_drew1 HB.out)
                 clear HO_4
                 clear HO_5
                 clear HO_9
                 clear BK550
                 clear HB
                 have HO_4 := n0_
                 have HO_5 := n1_
                 have HO_9 := n2_
                 have BK550 := n3_
                 have HB := n4_
                 clear n0_ n1_ n2_ n3_ n4_
                 have p555 : 0 ≤ (0 : Int) := (by omega)
                 have q555 : 0 < (t545.length : Int) := of_decide_eq_true (by first | (with_reducible assumption) | assumption)
                 obtain ⟨ad555, e555, hx555_0⟩ := Kd.at_string (Kd.R_reads' HO_9.out).2.2 0 p555 q555
                 obtain rfl : ad548 = ad555 := (by injection e555)
                 have qi555 : (0 < t545.length) = True := eq_true (by omega)
                 (try rw [show ((0 : Int)).toNat = 0 from rfl] at hx555_0)
                 (try rw [Addr.add_zero'] at hx555_0)
                 replace p555 := eq_true p555
                 replace q555 := eq_true q555
                 refine start_ (n := 8) (S := fun w' => w'.cell? ad548 = some (.string (rdOf ByteArray.empty t545 0))) (ds := []) #[false, false, false, false, false, false, false, false] (by kernel_rfl) rfl rfl hx555_0 (fun hHeld => ?_); refine with_tabW spec_l6Untree.tab14 spec_l6Untree.bits14 (fun HT_ HW_ => ?_)
                 generalize wr.drew = w30 at HO_4 HO_5 HO_9 BK550 HB hx555_0 hHeld ⊢
                 refine pure_ (i := 1) (N := some 50) (v := ?_) (a' := ?_) #[false, true, false, false, false, false, false, false] rfl rfl (any_of HT_.out (by kernel_rfl)) (fun _ _ _ h => h) (Or.inl ⟨by rfl, ?_⟩) ?_ ?_
                 rotate_left
                 ·
                  intro w'
                  go_simp
                  with_reducible rfl
                 rotate_left
                 ·
                  simp only [Act.put, List.setIfInBounds_toArray, List.set_cons_zero, List.set_cons_succ, i64_w, i32_w]
                  rfl
                 refine pure_ (i := 4) (N := some 53) (v := ?_) (a' := ?_) #[false, true, false, false, true, false, false, false] rfl rfl (any_of HT_.out (by kernel_rfl)) (fun _ _ _ h => h) (Or.inl ⟨by rfl, ?_⟩) ?_ ?_
                 rotate_left
                 ·
                  intro w'
                  go_simp
                  with_reducible rfl
                 rotate_left
                 ·
                  simp only [Act.put, List.setIfInBounds_toArray, List.set_cons_zero, List.set_cons_succ, i64_w, i32_w]
                  rfl
                 refine pure_ (i := 5) (N := some 54) (v := ?_) (a' := ?_) #[false, true, false, false, true, true, false, false] rfl rfl (any_of HT_.out (by kernel_rfl)) (fun _ _ _ h => h) (Or.inl ⟨by rfl, ?_⟩) ?_ ?_
                 rotate_left
                 ·
                  intro w'
                  go_simp
                  with_reducible rfl
                 rotate_left
                 ·
                  simp only [Act.put, List.setIfInBounds_toArray, List.set_cons_zero, List.set_cons_succ, i64_w, i32_w]
                  rfl
                 refine take_ (i := 6) (N := some 55) (v := ?_) (a' := ?_) #[false, true, false, false, true, true, true, false] rfl rfl (take_ofW HT_.out HW_.out (by kernel_rfl)) (fun _ _ _ h => h) (Or.inl ⟨by rfl, ?_⟩) hHeld ?_ ?_
                 rotate_left
                 ·
                  rintro w' s0
                  go_simp
                  with_reducible rfl
                 rotate_left
                 ·
                  simp only [Act.put, List.setIfInBounds_toArray, List.set_cons_zero, List.set_cons_succ, i64_w, i32_w]
                  rfl
                 refine one_ (i := 0) (N := some 49) #[true, true, false, false, true, true, true, false] rfl rfl (one_of HT_.out (by kernel_rfl)) (by decide) (fun K hK => ?_)
                 refine goes_ Tryd.func153 (by kernel_rfl) rfl #[] (by rfl) rfl rfl (by (try simp only [List.map_toArray, List.map_cons, List.map_nil]); first | done | rfl | (simp only [List.length_drop, List.length_take]; rfl)) ?_
                 with_reducible refine (spec_l6Words.calls  t551 _ A25.out).mono ?_
                 rintro e w31 ⟨v552, rfl, ho0, hb⟩
                 have HS0_ := (hb.cell (World.block_lt_of_cell? _ _ (hHeld))).trans (hHeld)
                 refine ⟨_, rfl, ?_⟩
                 have n0_ := Aside0.mk (Kd.R_below (by (with_reducible repeat (first | apply Kd.R_alloc | apply Kd.R_drewN | apply Kd.R_drew)); exact HO_4.out) hb)
                 have n1_ := Aside0.mk (Kd.R_elder' (by (with_reducible repeat (first | apply Kd.R_alloc | apply Kd.R_drewN | apply Kd.R_drew)); exact HO_5.out) (Kd.R_base ho0) hb)
                 have n2_ := Aside0.mk (Kd.R_elder' (by (with_reducible repeat (first | apply Kd.R_alloc | apply Kd.R_drewN | apply Kd.R_drew)); exact HO_9.out) (Kd.R_base ho0) hb)
                 have n3_ := Aside0.mk (Kd.R_lower (Kd.R_new' (Kd.R_new' ho0 (Kd.R_lt (by (with_reducible repeat (first | apply Kd.R_alloc | apply Kd.R_drewN | apply Kd.R_drew)); exact HO_5.out))) (Kd.R_lt (by (with_reducible repeat (first | apply Kd.R_alloc | apply Kd.R_drewN | apply Kd.R_drew)); exact HO_9.out))) (below_size (by repeat (first | (with_reducible first | exact HB.out | apply below_alloc | apply pw_below_drewN | apply below_drew1 | refine below_set ?_ GE550.out) | exact HB.out))))
                 have n4_ := Aside0.mk (blk_below (g := gb550) (o := .cells #[.string (rdOf ByteArray.empty t545 2), .int .i64 x551001_3, .string (rdOf ByteArray.empty t545 1)] 132 (0, 0)) (by (with_reducible repeat (first | refine blk_drewN ?_ _ | refine blk_drew ?_ | refine blk_alloc ?_ _)); exact BK550.out) hb)
                 have n5_ := Aside0.mk (below_step (by repeat (first | (with_reducible first | exact HB.out | apply below_alloc | apply pw_below_drewN | apply below_drew1 | refine below_set ?_ GE550.out) | exact HB.out)) hb)
                 clear HO_4
                 clear HO_5
                 clear HO_9
                 clear BK550
                 clear HB
                 have HO_4 := n0_
                 have HO_5 := n1_
                 have HO_9 := n2_
                 have HO553 := n3_
                 have BK550 := n4_
                 have HB := n5_
                 clear n0_ n1_ n2_ n3_ n4_ n5_
                 (try clear hb)
                 (try clear hb2)
                 (try clear hk)
                 (try clear hi)
                 (try clear ho0)
                 obtain ⟨Ao32, co32, eo32⟩ := Kd.R_slice HO553.out
                 (first | subst eo32 | (injection eo32 with f1_ f2_ f3_; have f4_ := f1_.symm; have f5_ := f3_.symm; clear f1_ f2_ f3_; subst f4_; subst f5_))
                 have p554 : 0 ≤ (x11_3 : Int) := of_decide_eq_true (by first | (with_reducible assumption) | assumption)
                 have q554 : x11_3 < (t551.length : Int) := of_decide_eq_true (by first | (with_reducible assumption) | assumption)
                 obtain ⟨ad554, e554, hx554_0⟩ := Kd.at_string (Kd.R_reads' HO553.out).2.2 x11_3 p554 q554
                 cases e554
                 replace p554 := eq_true p554
                 replace q554 := eq_true q554
                 refine hK.out _ _ HS0_ (fun hHeld => X.wpAnyLast_more (fun w' => w'.cell? ad548 = some (.string (rdOf ByteArray.empty t545 0)) ∧ w'.cell? (ad554.add (x11_3).toNat) = some (.string (rdOf ByteArray.empty t551 x11_3))) (fun _ ⟨s0, s1⟩ => s0) ⟨HS0_, hx554_0⟩ (fun hHeld => ?_))
                 clear hK K
                 refine norm_ (a' := ?_) ?_ ?_
                 rotate_left
                 ·
                  show Act.put _ (some 49) _ = _
                  simp only [Act.put, List.setIfInBounds_toArray, List.set_cons_zero, List.set_cons_succ, i64_w, i32_w]
                  rfl
                 refine pure_ (i := 2) (N := some 51) (v := ?_) (a' := ?_) #[true, true, true, false, true, true, true, false] rfl rfl (any_of HT_.out (by kernel_rfl)) (fun _ _ _ h => h) (Or.inl ⟨by rfl, ?_⟩) ?_ ?_
                 rotate_left
                 ·
                  intro w'
                  go_simp
                  with_reducible rfl
                 rotate_left
                 ·
                  simp only [Act.put, List.setIfInBounds_toArray, List.set_cons_zero, List.set_cons_succ, i64_w, i32_w]
                  rfl
                 refine take_ (i := 3) (N := some 52) (v := ?_) (a' := ?_) #[true, true, true, true, true, true, true, false] rfl rfl (take_ofW HT_.out HW_.out (by kernel_rfl)) (fun _ _ _ h => h) (Or.inl ⟨by rfl, ?_⟩) hHeld ?_ ?_
                 rotate_left
                 ·
                  rintro w' ⟨s0, s1⟩
                  go_simp
                  with_reducible rfl
                 rotate_left
                 ·
                  simp only [Act.put, List.setIfInBounds_toArray, List.set_cons_zero, List.set_cons_succ, i64_w, i32_w]
                  rfl
                 refine pure_ (i := 7) (N := some 56) (v := ?_) (a' := ?_) #[true, true, true, true, true, true, true, true] rfl rfl (any_of HT_.out (by kernel_rfl)) (fun _ _ _ h => h) (Or.inl ⟨by rfl, ?_⟩) ?_ ?_
                 rotate_left
                 ·
                  intro w'
                  go_simp
                  with_reducible rfl
                 rotate_left
                 ·
                  simp only [Act.put, List.setIfInBounds_toArray, List.set_cons_zero, List.set_cons_succ, i64_w, i32_w]
                  rfl
                 refine done_ (done_of HT_.out (by kernel_rfl)) ?_
                 have hcz33_0 : w31.cell? ⟨gb550, 0, none⟩ = some (.string (rdOf ByteArray.empty t545 2)) := (blk_cell BK550.out 0).trans rfl
                 have hcz33_1 : w31.cell? ⟨gb550, 1, none⟩ = some (.int .i64 x551001_3) := (blk_cell BK550.out 1).trans rfl
                 have hcz33_2 : w31.cell? ⟨gb550, 2, none⟩ = some (.string (rdOf ByteArray.empty t545 1)) := (blk_cell BK550.out 2).trans rfl
                 have hfz33_0 := blk_frozen BK550.out 0
                 have hfz33_1 := blk_frozen BK550.out 1
                 have hfz33_2 := blk_frozen BK550.out 2
                 try go_wp2
                 go_roundg k3
                 case measure => have := HK1.out; have := HJ9.out; have := HK3.out; omega
                 case rel => exact ⟨(wrap64 (x11_3 + 1)), (x11_3), (by first | rfl | (simp; done) | (simp [*]; done)), H', ⟨by have := HK1.out; have := HJ9.out; have := HK3.out; omega⟩, ⟨by (with_reducible repeat (first | apply Kd.R_alloc | apply Kd.R_drewN | apply Kd.R_drew)); exact Kd.R_mono (Kd.R_far (p := ⟨gb550, 1, none⟩) (Kd.R_mono HO_4.out (fun k_ hk => (⟨hk, hk⟩ : _ ∧ k_ ≠ gb550))) (fun _ hk => hk.2) (.int .i64 x11_3)) (fun _ hk => hk.1)⟩, ⟨by (with_reducible repeat (first | apply Kd.R_alloc | apply Kd.R_drewN | apply Kd.R_drew)); exact Kd.R_mono (Kd.R_far (p := ⟨gb550, 1, none⟩) (Kd.R_types HO_5.out BK550.out (by decide)) (fun _ hk => hk.2) (.int .i64 x11_3)) (fun _ hk => hk.1.1)⟩, ⟨by (with_reducible repeat (first | apply Kd.R_alloc | apply Kd.R_drewN | apply Kd.R_drew)); exact Kd.R_mono (Kd.R_far (p := ⟨gb550, 1, none⟩) (Kd.R_types HO_9.out BK550.out (by decide)) (fun _ hk => hk.2) (.int .i64 x11_3)) (fun _ hk => hk.1.1)⟩, ⟨by (with_reducible repeat (first | refine blk_drewN ?_ _ | refine blk_drew ?_ | refine blk_alloc ?_ _)); refine blk_put (cs := #[.string (rdOf ByteArray.empty t545 2), .int .i64 x551001_3, .string (rdOf ByteArray.empty t545 1)]) ?_ 1 _ rfl; (with_reducible repeat (first | refine blk_drewN ?_ _ | refine blk_drew ?_ | refine blk_alloc ?_ _)); exact BK550.out⟩, ⟨by repeat (first | (with_reducible first | exact HB.out | apply below_alloc | apply pw_below_drewN | apply below_drew1 | refine below_set ?_ GE550.out) | exact HB.out)⟩⟩
                ·
                 rw [if_neg c29] at H
                 have c29b0 : ((rdOf ByteArray.empty t551 x11_3).toList == (rdOf ByteArray.empty t545 0).toList) = false := beq_eq_false_iff_ne.mpr c29
                 have c29b1 : ((rdOf ByteArray.empty t551 x11_3).toList != (rdOf ByteArray.empty t545 0).toList) = true := bne_iff_ne.mpr c29
                 have H' := Aside0.mk H
                 clear H
                 try go_wp2
                 have n0_ := Aside0.mk (Kd.R_drew HO_4.out)
                 have n1_ := Aside0.mk (Kd.R_drew HO_5.out)
                 have n2_ := Aside0.mk (Kd.R_drew HO_9.out)
                 have n3_ := Aside0.mk (blk_drew BK550.out)
                 have n4_ := Aside0.mk (below_drew1 HB.out)
                 clear HO_4
                 clear HO_5
                 clear HO_9
                 clear BK550
                 clear HB
                 have HO_4 := n0_
                 have HO_5 := n1_
                 have HO_9 := n2_
                 have BK550 := n3_
                 have HB := n4_
                 clear n0_ n1_ n2_ n3_ n4_
                 have p555 : 0 ≤ (0 : Int) := (by omega)
                 have q555 : 0 < (t545.length : Int) := of_decide_eq_true (by first | (with_reducible assumption) | assumption)
                 obtain ⟨ad555, e555, hx555_0⟩ := Kd.at_string (Kd.R_reads' HO_9.out).2.2 0 p555 q555
                 obtain rfl : ad548 = ad555 := (by injection e555)
                 have qi555 : (0 < t545.length) = True := eq_true (by omega)
                 (try rw [show ((0 : Int)).toNat = 0 from rfl] at hx555_0)
                 (try rw [Addr.add_zero'] at hx555_0)
                 replace p555 := eq_true p555
                 replace q555 := eq_true q555
                 refine start_ (n := 8) (S := fun w' => w'.cell? ad548 = some (.string (rdOf ByteArray.empty t545 0))) (ds := []) #[false, false, false, false, false, false, false, false] (by kernel_rfl) rfl rfl hx555_0 (fun hHeld => ?_); refine with_tabW spec_l6Untree.tab14 spec_l6Untree.bits14 (fun HT_ HW_ => ?_)
                 generalize wr.drew = w34 at HO_4 HO_5 HO_9 BK550 HB hx555_0 hHeld ⊢
                 refine pure_ (i := 1) (N := some 50) (v := ?_) (a' := ?_) #[false, true, false, false, false, false, false, false] rfl rfl (any_of HT_.out (by kernel_rfl)) (fun _ _ _ h => h) (Or.inl ⟨by rfl, ?_⟩) ?_ ?_
                 rotate_left
                 ·
                  intro w'
                  go_simp
                  with_reducible rfl
                 rotate_left
                 ·
                  simp only [Act.put, List.setIfInBounds_toArray, List.set_cons_zero, List.set_cons_succ, i64_w, i32_w]
                  rfl
                 refine pure_ (i := 4) (N := some 53) (v := ?_) (a' := ?_) #[false, true, false, false, true, false, false, false] rfl rfl (any_of HT_.out (by kernel_rfl)) (fun _ _ _ h => h) (Or.inl ⟨by rfl, ?_⟩) ?_ ?_
                 rotate_left
                 ·
                  intro w'
                  go_simp
                  with_reducible rfl
                 rotate_left
                 ·
                  simp only [Act.put, List.setIfInBounds_toArray, List.set_cons_zero, List.set_cons_succ, i64_w, i32_w]
                  rfl
                 refine pure_ (i := 5) (N := some 54) (v := ?_) (a' := ?_) #[false, true, false, false, true, true, false, false] rfl rfl (any_of HT_.out (by kernel_rfl)) (fun _ _ _ h => h) (Or.inl ⟨by rfl, ?_⟩) ?_ ?_
                 rotate_left
                 ·
                  intro w'
                  go_simp
                  with_reducible rfl
                 rotate_left
                 ·
                  simp only [Act.put, List.setIfInBounds_toArray, List.set_cons_zero, List.set_cons_succ, i64_w, i32_w]
                  rfl
                 refine take_ (i := 6) (N := some 55) (v := ?_) (a' := ?_) #[false, true, false, false, true, true, true, false] rfl rfl (take_ofW HT_.out HW_.out (by kernel_rfl)) (fun _ _ _ h => h) (Or.inl ⟨by rfl, ?_⟩) hHeld ?_ ?_
                 rotate_left
                 ·
                  rintro w' s0
                  go_simp
                  with_reducible rfl
                 rotate_left
                 ·
                  simp only [Act.put, List.setIfInBounds_toArray, List.set_cons_zero, List.set_cons_succ, i64_w, i32_w]
                  rfl
                 refine one_ (i := 0) (N := some 49) #[true, true, false, false, true, true, true, false] rfl rfl (one_of HT_.out (by kernel_rfl)) (by decide) (fun K hK => ?_)
                 refine goes_ Tryd.func153 (by kernel_rfl) rfl #[] (by rfl) rfl rfl (by (try simp only [List.map_toArray, List.map_cons, List.map_nil]); first | done | rfl | (simp only [List.length_drop, List.length_take]; rfl)) ?_
                 with_reducible refine (spec_l6Words.calls  t551 _ A25.out).mono ?_
                 rintro e w35 ⟨v552, rfl, ho0, hb⟩
                 have HS0_ := (hb.cell (World.block_lt_of_cell? _ _ (hHeld))).trans (hHeld)
                 refine ⟨_, rfl, ?_⟩
                 have n0_ := Aside0.mk (Kd.R_below (by (with_reducible repeat (first | apply Kd.R_alloc | apply Kd.R_drewN | apply Kd.R_drew)); exact HO_4.out) hb)
                 have n1_ := Aside0.mk (Kd.R_elder' (by (with_reducible repeat (first | apply Kd.R_alloc | apply Kd.R_drewN | apply Kd.R_drew)); exact HO_5.out) (Kd.R_base ho0) hb)
                 have n2_ := Aside0.mk (Kd.R_elder' (by (with_reducible repeat (first | apply Kd.R_alloc | apply Kd.R_drewN | apply Kd.R_drew)); exact HO_9.out) (Kd.R_base ho0) hb)
                 have n3_ := Aside0.mk (Kd.R_lower (Kd.R_new' (Kd.R_new' ho0 (Kd.R_lt (by (with_reducible repeat (first | apply Kd.R_alloc | apply Kd.R_drewN | apply Kd.R_drew)); exact HO_5.out))) (Kd.R_lt (by (with_reducible repeat (first | apply Kd.R_alloc | apply Kd.R_drewN | apply Kd.R_drew)); exact HO_9.out))) (below_size (by repeat (first | (with_reducible first | exact HB.out | apply below_alloc | apply pw_below_drewN | apply below_drew1 | refine below_set ?_ GE550.out) | exact HB.out))))
                 have n4_ := Aside0.mk (blk_below (g := gb550) (o := .cells #[.string (rdOf ByteArray.empty t545 2), .int .i64 x551001_3, .string (rdOf ByteArray.empty t545 1)] 132 (0, 0)) (by (with_reducible repeat (first | refine blk_drewN ?_ _ | refine blk_drew ?_ | refine blk_alloc ?_ _)); exact BK550.out) hb)
                 have n5_ := Aside0.mk (below_step (by repeat (first | (with_reducible first | exact HB.out | apply below_alloc | apply pw_below_drewN | apply below_drew1 | refine below_set ?_ GE550.out) | exact HB.out)) hb)
                 clear HO_4
                 clear HO_5
                 clear HO_9
                 clear BK550
                 clear HB
                 have HO_4 := n0_
                 have HO_5 := n1_
                 have HO_9 := n2_
                 have HO553 := n3_
                 have BK550 := n4_
                 have HB := n5_
                 clear n0_ n1_ n2_ n3_ n4_ n5_
                 (try clear hb)
                 (try clear hb2)
                 (try clear hk)
                 (try clear hi)
                 (try clear ho0)
                 obtain ⟨Ao36, co36, eo36⟩ := Kd.R_slice HO553.out
                 (first | subst eo36 | (injection eo36 with f1_ f2_ f3_; have f4_ := f1_.symm; have f5_ := f3_.symm; clear f1_ f2_ f3_; subst f4_; subst f5_))
                 have p554 : 0 ≤ (x11_3 : Int) := of_decide_eq_true (by first | (with_reducible assumption) | assumption)
                 have q554 : x11_3 < (t551.length : Int) := of_decide_eq_true (by first | (with_reducible assumption) | assumption)
                 obtain ⟨ad554, e554, hx554_0⟩ := Kd.at_string (Kd.R_reads' HO553.out).2.2 x11_3 p554 q554
                 cases e554
                 replace p554 := eq_true p554
                 replace q554 := eq_true q554
                 refine hK.out _ _ HS0_ (fun hHeld => X.wpAnyLast_more (fun w' => w'.cell? ad548 = some (.string (rdOf ByteArray.empty t545 0)) ∧ w'.cell? (ad554.add (x11_3).toNat) = some (.string (rdOf ByteArray.empty t551 x11_3))) (fun _ ⟨s0, s1⟩ => s0) ⟨HS0_, hx554_0⟩ (fun hHeld => ?_))
                 clear hK K
                 refine norm_ (a' := ?_) ?_ ?_
                 rotate_left
                 ·
                  show Act.put _ (some 49) _ = _
                  simp only [Act.put, List.setIfInBounds_toArray, List.set_cons_zero, List.set_cons_succ, i64_w, i32_w]
                  rfl
                 refine pure_ (i := 2) (N := some 51) (v := ?_) (a' := ?_) #[true, true, true, false, true, true, true, false] rfl rfl (any_of HT_.out (by kernel_rfl)) (fun _ _ _ h => h) (Or.inl ⟨by rfl, ?_⟩) ?_ ?_
                 rotate_left
                 ·
                  intro w'
                  go_simp
                  with_reducible rfl
                 rotate_left
                 ·
                  simp only [Act.put, List.setIfInBounds_toArray, List.set_cons_zero, List.set_cons_succ, i64_w, i32_w]
                  rfl
                 refine take_ (i := 3) (N := some 52) (v := ?_) (a' := ?_) #[true, true, true, true, true, true, true, false] rfl rfl (take_ofW HT_.out HW_.out (by kernel_rfl)) (fun _ _ _ h => h) (Or.inl ⟨by rfl, ?_⟩) hHeld ?_ ?_
                 rotate_left
                 ·
                  rintro w' ⟨s0, s1⟩
                  go_simp
                  with_reducible rfl
                 rotate_left
                 ·
                  simp only [Act.put, List.setIfInBounds_toArray, List.set_cons_zero, List.set_cons_succ, i64_w, i32_w]
                  rfl
                 refine pure_ (i := 7) (N := some 56) (v := ?_) (a' := ?_) #[true, true, true, true, true, true, true, true] rfl rfl (any_of HT_.out (by kernel_rfl)) (fun _ _ _ h => h) (Or.inl ⟨by rfl, ?_⟩) ?_ ?_
                 rotate_left
                 ·
                  intro w'
                  go_simp
                  with_reducible rfl
                 rotate_left
                 ·
                  simp only [Act.put, List.setIfInBounds_toArray, List.set_cons_zero, List.set_cons_succ, i64_w, i32_w]
                  rfl
                 refine done_ (done_of HT_.out (by kernel_rfl)) ?_
                 try go_wp2
                 go_roundg k3
                 case measure => have := HK1.out; have := HJ9.out; have := HK3.out; omega
                 case rel => exact ⟨(wrap64 (x11_3 + 1)), (x551001_3), (by first | rfl | (simp; done) | (simp [*]; done)), H', ⟨by have := HK1.out; have := HJ9.out; have := HK3.out; omega⟩, ⟨by (with_reducible repeat (first | apply Kd.R_alloc | apply Kd.R_drewN | apply Kd.R_drew)); exact HO_4.out⟩, ⟨by (with_reducible repeat (first | apply Kd.R_alloc | apply Kd.R_drewN | apply Kd.R_drew)); exact Kd.R_mono HO_5.out (fun _ hk => hk.1)⟩, ⟨by (with_reducible repeat (first | apply Kd.R_alloc | apply Kd.R_drewN | apply Kd.R_drew)); exact Kd.R_mono HO_9.out (fun _ hk => hk.1)⟩, ⟨by (with_reducible repeat (first | refine blk_drewN ?_ _ | refine blk_drew ?_ | refine blk_alloc ?_ _)); exact BK550.out⟩, ⟨by repeat (first | (with_reducible first | exact HB.out | apply below_alloc | apply pw_below_drewN | apply below_drew1 | refine below_set ?_ GE550.out) | exact HB.out)⟩⟩
               ·
                rw [if_neg c28] at H
                exact absurd H (by simp)
              ·
               rw [if_neg c27] at H
               exact absurd H (by simp)
             ·
              rw [if_neg c26] at H
              exact absurd H (by simp)
            ·
             rw [if_neg c24] at H
             have c24b0 : decide (x11_3 < 4) = false := decide_eq_false c24
             clear c24
             by_cases c37 : x4_1.length < 3518437208883
             ·
              rw [if_pos c37] at H
              have LMc37 := Aside0.mk c37
              clear c37
              obtain ⟨y556, hy556⟩ : ∃ y_ : List (S132), y_ = (x4_1 ++ [(⟨(rdOf ByteArray.empty t545 2), x551001_3, (rdOf ByteArray.empty t545 1)⟩ : S132)]) := ⟨_, rfl⟩
              replace H : (spec_l6Untree.l0 k3 y556 t538 (wrap64 (x6_1 + 1))) = some (r1, r2) := by first | (rw [hy556]; with_reducible exact H) | (have H2_ := (Option.bind_some _ _).symm.trans H; rw [hy556]; with_reducible exact H2_) | (have H2_ := (Option.bind_some _ _).symm.trans H; with_reducible exact H2_) | with_reducible exact H | (rw [hy556]; exact H) | exact H
              have Ny556 := Aside0.mk hy556
              clear hy556
              have H' := Aside0.mk H
              clear H
              have hcz38_0 : wr.cell? ⟨gb550, 0, none⟩ = some (.string (rdOf ByteArray.empty t545 2)) := (blk_cell BK550.out 0).trans rfl
              have hcz38_1 : wr.cell? ⟨gb550, 1, none⟩ = some (.int .i64 x551001_3) := (blk_cell BK550.out 1).trans rfl
              have hcz38_2 : wr.cell? ⟨gb550, 2, none⟩ = some (.string (rdOf ByteArray.empty t545 1)) := (blk_cell BK550.out 2).trans rfl
              have hfz38_0 := blk_frozen BK550.out 0
              have hfz38_1 := blk_frozen BK550.out 1
              have hfz38_2 := blk_frozen BK550.out 2
              go_wp2_with (first | ((with_reducible refine gate_builtin (b := .append) (xs := #[.tmp 59, .tmp 61]) rfl ?_); (try (refine gate_guard (by rfl) ?_; dsimp only)); at_builtin; refine Kd.R_append k132 (w0 := w) w.heap.size rfl (.tmp 59) (.tmp 61) 56 132 (.agg #[(.string ⟨#[]⟩), (.int .i64 0), (.string ⟨#[]⟩)]) 40 rfl Tryd.underlying56 info132 rfl (by decide) (by omega) u4 x4_1 (⟨(rdOf ByteArray.empty t545 2), x551001_3, (rdOf ByteArray.empty t545 1)⟩ : S132) [.string (rdOf ByteArray.empty t545 2), .int .i64 x551001_3, .string (rdOf ByteArray.empty t545 1)] (fun k_ => k_ ≠ gb550) (fun _ => False) rfl rfl ?aP (fun _ hk => hk.elim) ?aF ?aO ?aB ?aS ?aL ?_; (case aP => exact k132_mkM _ _ _ (⟨(rdOf ByteArray.empty t545 2), x551001_3, (rdOf ByteArray.empty t545 1)⟩ : S132)); (case aB => exact (by repeat (first | (with_reducible first | exact HB.out | apply below_alloc | apply pw_below_drewN | apply below_drew1 | refine below_set ?_ GE550.out) | exact HB.out))); (case aF => exact (fun k_ hk => Kd.freshB (g := gb550) (o := .cells #[.string (rdOf ByteArray.empty t545 2), .int .i64 x551001_3, .string (rdOf ByteArray.empty t545 1)] 132 (0, 0)) (by (with_reducible repeat (first | refine blk_drewN ?_ _ | refine blk_drew ?_ | refine blk_alloc ?_ _)); exact BK550.out) k_ hk)); (case aO => exact (by (with_reducible repeat (first | apply Kd.R_alloc | apply Kd.R_drewN | apply Kd.R_drew)); exact HO_4.out)); (case aS => exact (below_size (by repeat (first | (with_reducible first | exact HB.out | apply below_alloc | apply pw_below_drewN | apply below_drew1 | refine below_set ?_ GE550.out) | exact HB.out)))); (case aL => have := LMc37.out; omega); intro v557 w39 ho hb hg hat; rw [← Ny556.out] at ho; have n0_ := Aside0.mk (Kd.R_over' (by (with_reducible repeat (first | apply Kd.R_alloc | apply Kd.R_drewN | apply Kd.R_drew)); exact HO_5.out) (Kd.R_typed (by (with_reducible repeat (first | apply Kd.R_alloc | apply Kd.R_drewN | apply Kd.R_drew)); exact HO_4.out)) (by decide) hg); have n1_ := Aside0.mk (Kd.R_over' (by (with_reducible repeat (first | apply Kd.R_alloc | apply Kd.R_drewN | apply Kd.R_drew)); exact HO_9.out) (Kd.R_typed (by (with_reducible repeat (first | apply Kd.R_alloc | apply Kd.R_drewN | apply Kd.R_drew)); exact HO_4.out)) (by decide) hg); have n2_ := Aside0.mk (blk_grown (g := gb550) (o := .cells #[.string (rdOf ByteArray.empty t545 2), .int .i64 x551001_3, .string (rdOf ByteArray.empty t545 1)] 132 (0, 0)) (by (with_reducible repeat (first | refine blk_drewN ?_ _ | refine blk_drew ?_ | refine blk_alloc ?_ _)); exact BK550.out) hg (Kd.R_away HO_4.out (fun _ hk => hk))); have n3_ := Aside0.mk (hb); have n4_ := Aside0.mk (ho); clear HO_5; clear HO_9; clear BK550; clear HB; clear HO_4; have HO_5 := n0_; have HO_9 := n1_; have BK550 := n2_; have HB := n3_; have HO558 := n4_; clear n0_ n1_ n2_ n3_ n4_; clear ho hb hg hat))
              go_roundg k3
              case measure => have := HK1.out; have := HJ9.out; have := HK3.out; omega
              case rel => exact ⟨(y556), (wrap64 (x6_1 + 1)), (by first | rfl | (simp; done) | (simp [*]; done)), H', ⟨by have := HK1.out; have := HJ9.out; have := HK3.out; omega⟩, ⟨by (with_reducible repeat (first | apply Kd.R_alloc | apply Kd.R_drewN | apply Kd.R_drew)); exact Kd.R_mono HO558.out (fun _ hk => trivial)⟩, ⟨by (with_reducible repeat (first | apply Kd.R_alloc | apply Kd.R_drewN | apply Kd.R_drew)); exact Kd.R_mono HO_5.out (fun _ hk => trivial)⟩, ⟨by repeat (first | (with_reducible first | exact HB.out | apply below_alloc | apply pw_below_drewN | apply below_drew1 | refine below_set ?_ GE550.out) | exact HB.out)⟩⟩
             ·
              rw [if_neg c37] at H
              exact absurd H (by simp)
         ·
          rw [if_neg c17] at H
          exact absurd H (by simp)
        ·
         rw [if_neg c16] at H
         exact absurd H (by simp)
    ·
     rw [if_neg c7] at H
     exact absurd H (by simp)
   ·
    rw [if_neg c6] at H
    have c6b0 : decide (x6_1 < (t538.length : Int)) = false := decide_eq_false c6
    clear c6
    replace H := Option.bind_eq_some_iff.mp H
    obtain ⟨t541, A400, H⟩ := H
    replace H : (some (x4_1, (t541 == 0))) = some (r1, r2) := H
    have A40 := Aside0.mk A400
    clear A400
    simp only [Option.some.injEq, Prod.mk.injEq] at H
    obtain ⟨rfl, rfl⟩ := H
    obtain ⟨Ao41, co41, eo41⟩ := Kd.R_slice HO_5.out
    subst eo41
    obtain ⟨Ao42, co42, eo42⟩ := Kd.R_slice HO_4.out
    subst eo42
    go_wp2_with (first | ((with_reducible refine gate_callee (f := 35) rfl ?_); refine goesL_ (some 65) rfl rfl Tryd.func35 (by kernel_rfl) rfl #[.slice Ao42 x4_1.length co42] rfl (by (try simp only [List.map_toArray, List.map_cons, List.map_nil]); first | done | rfl | (simp only [List.length_drop, List.length_take]; rfl)) ?_; (with_reducible refine (spec_TreeFault.calls k1 _ _ x4_1 t541 _ ?side1 ?side2 A40.out).mono ?_); (case side1 => repeat (first | exact (Kd.R_reads' HO_4.out).2.2 | (with_reducible refine Kd.C_alloc ?_ _) | (with_reducible refine Kd.C_drewN ?_ _) | (with_reducible refine Kd.C_drew ?_))); (case side2 => exact (Kd.R_reads' HO_4.out).2.1); rintro e w43 ⟨rfl, hb⟩; refine ⟨_, rfl, ?_⟩; have n0_ := Aside0.mk (Kd.R_below (by (with_reducible repeat (first | apply Kd.R_alloc | apply Kd.R_drewN | apply Kd.R_drew)); exact HO_4.out) hb); have n1_ := Aside0.mk (Kd.R_below (by (with_reducible repeat (first | apply Kd.R_alloc | apply Kd.R_drewN | apply Kd.R_drew)); exact HO_5.out) hb); have n2_ := Aside0.mk (below_step (by repeat (first | (with_reducible first | exact HB.out | apply below_alloc | apply pw_below_drewN | apply below_drew1) | exact HB.out)) hb); clear HO_4; clear HO_5; clear HB; have HO_4 := n0_; have HO_5 := n1_; have HB := n2_; clear n0_ n1_ n2_; (try clear hb); (try clear hb2); (try clear hk); (try clear hi)))
    go_ret2
    exact ⟨_, by first | rfl | (simp [errW_none, errW_some] <;> rfl) | (simp [*, errW_none, errW_some] <;> rfl), by (with_reducible repeat (first | apply Kd.R_alloc | apply Kd.R_drewN | apply Kd.R_drew)); exact HO_4.out, by repeat (first | (with_reducible first | exact HB.out | apply below_alloc | apply pw_below_drewN | apply below_drew1) | exact HB.out)⟩

end Go.Proofs.YtcapmfgamdiijaaDoor.PX

namespace Go.Proofs.YtcapmfgamdiijaaDoor.PX
open Go.RowKit Go.Proofs.YtcapmfgamdiijaaDoorW.PrintWords Go.Proofs.YtcapmfgamdiijaaDoorW.PrintLast Go.Proofs.YtcapmfgamdiijaaDoorW.PrintMore
attribute [local go_sem] max2_int min2_int max_two min_two max_three min_three max_four min_four   -- for this text's walks alone
set_option linter.unusedVariables false
set_option linter.unusedSimpArgs false

/-! ### spec_DecodeTree: function 48 -/
def spec_DecodeTree.f (k : Nat) (a0 : ByteArray) : Option (Int × (List (S132))) := (spec_l6Untree.f k a0).bind fun bt560 => (if bt560.2 = true then (some (0, bt560.1)) else (some (5, ([] : List (S132)))))
theorem spec_DecodeTree.mono : ∀ a0 k, LeO (spec_DecodeTree.f k a0) (spec_DecodeTree.f (k + 1) a0) := by
 intro a0 k
 unfold spec_DecodeTree.f
 repeat' first
   | (with_reducible exact spec_l6Untree.mono _ _)
   | (with_reducible exact LeO.refl _)
   | (with_reducible exact LeO.none _)
   | (with_reducible refine LeO.ite ?_ ?_)
   | (with_reducible refine LeO.bind ?_ (fun _ => ?_))
   | exact spec_l6Untree.mono _ _
   | exact LeO.none _
   | refine LeO.ite ?_ ?_
   | refine LeO.bind ?_ (fun _ => ?_)
set_option maxHeartbeats 8000000 in
set_option maxRecDepth 100000 in
theorem spec_DecodeTree.calls (k : Nat) (a0 : ByteArray) (r1 : Int) (r2 : List (S132)) (w : World) (h : spec_DecodeTree.f k a0 = some (r1, r2)) :
  Calls Tryd.prog 48 #[.string a0] w fun e w' => ∃ v1_ : Value, e = .returned (.agg #[.int .i64 r1, v1_]) ∧ Kd.R k132 132 w' w.heap.size (fun _ => True) v1_ r2 ∧ Below w.heap.size w w' := by
 have hu70 := Tryd.underlying70
 have HB := Aside0.mk (Below.refl w.heap.size w)
 have H : ((spec_l6Untree.f k a0).bind fun bt560 => (if bt560.2 = true then (some (0, bt560.1)) else (some (5, ([] : List (S132)))))) = some (r1, r2) := h
 clear h
 replace H := Option.bind_eq_some_iff.mp H
 obtain ⟨⟨t560, t561⟩, A20, H⟩ := H
 replace H : (if t561 = true then (some (0, t560)) else (some (5, ([] : List (S132))))) = some (r1, r2) := H
 have A2 := Aside0.mk A20
 clear A20
 by_cases c3 : t561 = true
 ·
  subst c3
  have H1 : (some (0, t560)) = some (r1, r2) := by rw [if_pos rfl] at H; exact H
  clear H
  have H := H1
  clear H1
  simp only [Option.some.injEq, Prod.mk.injEq] at H
  obtain ⟨rfl, rfl⟩ := H
  go_enter Tryd.func48, Tryd.ntmps48
  go_wp2_with (first | ((with_reducible refine gate_dst (N := 2) rfl ?_); refine box_event ?hg (N := 2) ?hd (cs := #[.int .i64 0, .slice none 0 0]) (t := 70) ?hr ?_; (case hd => rfl); (case hg => rfl); (case hr => first | (go_simp; done) | (go_simp; rfl)); intro gb559 hg w4 hbox hb; have n0_ := Aside0.mk (below_step (by repeat (first | (with_reducible first | exact HB.out | apply below_alloc | apply pw_below_drewN | apply below_drew1) | exact HB.out)) hb); have n1_ := Aside0.mk (hbox); have n2_ := Aside0.mk ((by rw [hg]; exact (below_size (by repeat (first | (with_reducible first | exact HB.out | apply below_alloc | apply pw_below_drewN | apply below_drew1) | exact HB.out))) : w.heap.size ≤ gb559)); have n3_ := Aside0.mk ((by rw [hg]; exact (below_size (by repeat (first | (with_reducible first | exact HB.out | apply below_alloc | apply pw_below_drewN | apply below_drew1) | exact HB.out))) : w.heap.size ≤ gb559)); clear HB; have HB := n0_; have BK559 := n1_; have GW559 := n2_; have GE559 := n3_; clear n0_ n1_ n2_ n3_; clear hb hbox hg) | ((with_reducible refine gate_callee (f := 119) rfl ?_); refine goesL_ (some 7) rfl rfl Tryd.func119 (by kernel_rfl) rfl #[.string a0] rfl (by (try simp only [List.map_toArray, List.map_cons, List.map_nil]); first | done | rfl | (simp only [List.length_drop, List.length_take]; rfl)) ?_; (with_reducible refine (spec_l6Untree.calls k a0 t560 true _ A2.out).mono ?_); rintro e w5 ⟨v562, rfl, ho0, hb⟩; refine ⟨_, rfl, ?_⟩; have n0_ := Aside0.mk (Kd.R_lower ho0 (below_size (by repeat (first | (with_reducible first | exact HB.out | apply below_alloc | apply pw_below_drewN | apply below_drew1 | refine below_set ?_ GE559.out) | exact HB.out)))); have n1_ := Aside0.mk (blk_below (g := gb559) (o := .cells #[.int .i64 0, .slice none 0 0] 70 (0, 0)) (by (with_reducible repeat (first | refine blk_drewN ?_ _ | refine blk_drew ?_ | refine blk_alloc ?_ _)); exact BK559.out) hb); have n2_ := Aside0.mk (below_step (by repeat (first | (with_reducible first | exact HB.out | apply below_alloc | apply pw_below_drewN | apply below_drew1 | refine below_set ?_ GE559.out) | exact HB.out)) hb); clear BK559; clear HB; have HO563 := n0_; have BK559 := n1_; have HB := n2_; clear n0_ n1_ n2_; (try clear hb); (try clear hb2); (try clear hk); (try clear hi); (try clear ho0); obtain ⟨Ao6, co6, eo6⟩ := Kd.R_slice HO563.out; subst eo6; have hcz7_0 : w5.cell? ⟨gb559, 0, none⟩ = some (.int .i64 0) := (blk_cell BK559.out 0).trans rfl; have hcz7_1 : w5.cell? ⟨gb559, 1, none⟩ = some (.slice none 0 0) := (blk_cell BK559.out 1).trans rfl; have hfz7_0 := blk_frozen BK559.out 0; have hfz7_1 := blk_frozen BK559.out 1))
  refine bodyPost_ret (results_cell_row rfl _ _ gb559 70 #[.int .i64 0, .slice Ao6 t560.length co6] (0, 0) _ rfl (by (with_reducible repeat (first | refine blk_drewN ?_ _ | refine blk_drew ?_ | refine blk_alloc ?_ _)); refine blk_put (cs := #[.int .i64 0, .slice none 0 0]) ?_ 1 _ rfl; (with_reducible repeat (first | refine blk_drewN ?_ _ | refine blk_drew ?_ | refine blk_alloc ?_ _)); refine blk_put (cs := #[.int .i64 0, .slice none 0 0]) ?_ 0 _ rfl; (with_reducible repeat (first | refine blk_drewN ?_ _ | refine blk_drew ?_ | refine blk_alloc ?_ _)); exact BK559.out) Tryd.underlying70 rfl (by kernel_rfl)) rfl ?_
  exact ⟨_, by first | rfl | (simp [errW_none, errW_some] <;> rfl) | (simp [*, errW_none, errW_some] <;> rfl), by (with_reducible repeat (first | apply Kd.R_alloc | apply Kd.R_drewN | apply Kd.R_drew)); exact Kd.R_mono (Kd.R_far (p := ⟨gb559, 1, none⟩) (Kd.R_far (p := ⟨gb559, 0, none⟩) (Kd.R_types HO563.out BK559.out (by decide)) (fun _ hk => hk.2) (.int .i64 0)) (fun _ hk => hk.2) (.slice Ao6 t560.length co6)) (fun _ hk => trivial), by repeat (first | (with_reducible first | exact HB.out | apply below_alloc | apply pw_below_drewN | apply below_drew1 | refine below_set ?_ GE559.out) | exact HB.out)⟩
 ·
  replace c3 := Bool.eq_false_iff.mpr c3
  subst c3
  have H1 : (some (5, ([] : List (S132)))) = some (r1, r2) := by rw [if_neg (show ¬ (false = true) by decide)] at H; exact H
  clear H
  have H := H1
  clear H1
  simp only [Option.some.injEq, Prod.mk.injEq] at H
  obtain ⟨rfl, rfl⟩ := H
  go_enter Tryd.func48, Tryd.ntmps48
  go_wp2_with (first | ((with_reducible refine gate_dst (N := 2) rfl ?_); refine box_event ?hg (N := 2) ?hd (cs := #[.int .i64 0, .slice none 0 0]) (t := 70) ?hr ?_; (case hd => rfl); (case hg => rfl); (case hr => first | (go_simp; done) | (go_simp; rfl)); intro gb559 hg w8 hbox hb; have n0_ := Aside0.mk (below_step (by repeat (first | (with_reducible first | exact HB.out | apply below_alloc | apply pw_below_drewN | apply below_drew1) | exact HB.out)) hb); have n1_ := Aside0.mk (hbox); have n2_ := Aside0.mk ((by rw [hg]; exact (below_size (by repeat (first | (with_reducible first | exact HB.out | apply below_alloc | apply pw_below_drewN | apply below_drew1) | exact HB.out))) : w.heap.size ≤ gb559)); have n3_ := Aside0.mk ((by rw [hg]; exact (below_size (by repeat (first | (with_reducible first | exact HB.out | apply below_alloc | apply pw_below_drewN | apply below_drew1) | exact HB.out))) : w.heap.size ≤ gb559)); clear HB; have HB := n0_; have BK559 := n1_; have GW559 := n2_; have GE559 := n3_; clear n0_ n1_ n2_ n3_; clear hb hbox hg) | ((with_reducible refine gate_callee (f := 119) rfl ?_); refine goesL_ (some 7) rfl rfl Tryd.func119 (by kernel_rfl) rfl #[.string a0] rfl (by (try simp only [List.map_toArray, List.map_cons, List.map_nil]); first | done | rfl | (simp only [List.length_drop, List.length_take]; rfl)) ?_; (with_reducible refine (spec_l6Untree.calls k a0 t560 false _ A2.out).mono ?_); rintro e w9 ⟨v562, rfl, ho0, hb⟩; refine ⟨_, rfl, ?_⟩; have n0_ := Aside0.mk (Kd.R_lower ho0 (below_size (by repeat (first | (with_reducible first | exact HB.out | apply below_alloc | apply pw_below_drewN | apply below_drew1 | refine below_set ?_ GE559.out) | exact HB.out)))); have n1_ := Aside0.mk (blk_below (g := gb559) (o := .cells #[.int .i64 0, .slice none 0 0] 70 (0, 0)) (by (with_reducible repeat (first | refine blk_drewN ?_ _ | refine blk_drew ?_ | refine blk_alloc ?_ _)); exact BK559.out) hb); have n2_ := Aside0.mk (below_step (by repeat (first | (with_reducible first | exact HB.out | apply below_alloc | apply pw_below_drewN | apply below_drew1 | refine below_set ?_ GE559.out) | exact HB.out)) hb); clear BK559; clear HB; have HO563 := n0_; have BK559 := n1_; have HB := n2_; clear n0_ n1_ n2_; (try clear hb); (try clear hb2); (try clear hk); (try clear hi); (try clear ho0); have hcz10_0 : w9.cell? ⟨gb559, 0, none⟩ = some (.int .i64 0) := (blk_cell BK559.out 0).trans rfl; have hcz10_1 : w9.cell? ⟨gb559, 1, none⟩ = some (.slice none 0 0) := (blk_cell BK559.out 1).trans rfl; have hfz10_0 := blk_frozen BK559.out 0; have hfz10_1 := blk_frozen BK559.out 1))
  refine bodyPost_ret (results_cell_row rfl _ _ gb559 70 #[.int .i64 5, .slice none 0 0] (0, 0) _ rfl (by (with_reducible repeat (first | refine blk_drewN ?_ _ | refine blk_drew ?_ | refine blk_alloc ?_ _)); refine blk_put (cs := #[.int .i64 5, .slice none 0 0]) ?_ 1 _ rfl; (with_reducible repeat (first | refine blk_drewN ?_ _ | refine blk_drew ?_ | refine blk_alloc ?_ _)); refine blk_put (cs := #[.int .i64 0, .slice none 0 0]) ?_ 0 _ rfl; (with_reducible repeat (first | refine blk_drewN ?_ _ | refine blk_drew ?_ | refine blk_alloc ?_ _)); exact BK559.out) Tryd.underlying70 rfl (by kernel_rfl)) rfl ?_
  exact ⟨_, by first | rfl | (simp [errW_none, errW_some] <;> rfl) | (simp [*, errW_none, errW_some] <;> rfl), by first | exact Kd.R_nil _ _ _ _ _ | exact Kd.N_nil _ _ _ _ _ | exact Kd.V_nil _ _ _ _ _ | exact Kd.Q_nil _ _ _ _ _ | exact Kd.S_nil _ _ _ _ _, by repeat (first | (with_reducible first | exact HB.out | apply below_alloc | apply pw_below_drewN | apply below_drew1 | refine below_set ?_ GE559.out) | exact HB.out)⟩

end Go.Proofs.YtcapmfgamdiijaaDoor.PX
