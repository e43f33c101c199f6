/- Texts of this claim set one behind another by wip/bundle.py: PXf66, PXf68. -/
import Derived.Test.YtjibadlbiapcmaaDoorBMS3
import Derived.Test.YtjibadlbiapcmaaDoorBMS13
import Derived.Test.YtjibadlbiapcmaaDoorBMS14
namespace Go.Proofs.YtjibadlbiapcmaaDoor.PX
open Go.RowKit Go.Proofs.YtjibadlbiapcmaaDoorW.PrintWords Go.Proofs.YtjibadlbiapcmaaDoorW.PrintLast Go.Proofs.YtjibadlbiapcmaaDoorW.PrintMore
attribute [local go_sem] max2_int min2_int max_two min_two max_three min_three max_four min_four   -- for this text's walks alone
set_option linter.unusedVariables false
set_option linter.unusedSimpArgs false

/-! ### spec_StoreFault: function 66 -/
def spec_StoreFault.l0 : Nat → List (S96) → Int → Option (Int)
 | 0, _, _ => none
 | k + 1, x0, x3 => if x3 < (x0.length : Int) then (if 0 ≤ x3 then ((spec_IdOf.f k ((rd_T96 x0 x3).f1) ((rd_T96 x0 x3).f2)).bind fun bt125 => (if bt125.1 = 0 then (if bt125.2.toList = ((rd_T96 x0 x3).f0).toList then (if x3 > 0 then (if 0 ≤ (wrap64 (x3 - 1)) then (if (wrap64 (x3 - 1)) < (x0.length : Int) then (if ((Op.bytesLess (((rd_T96 x0 (wrap64 (x3 - 1))).f0).toList) (((rd_T96 x0 x3).f0).toList)) = true) then (spec_StoreFault.l0 k x0 (wrap64 (x3 + 1))) else (some 1)) else (none)) else (none)) else (spec_StoreFault.l0 k x0 (wrap64 (x3 + 1)))) else (some 1)) else (some bt125.1))) else (none)) else (some 0)
def spec_StoreFault.f (k : Nat) (l0 : List (S96)) : Option (Int) := if (l0.length : Int) > 200 then (some 2) else (spec_StoreFault.l0 k l0 0)
theorem spec_StoreFault.mono_l : ∀ k, (∀ y0 y1, LeO (spec_StoreFault.l0 k y0 y1) (spec_StoreFault.l0 (k + 1) y0 y1))
 | 0 => fun _ _ r h => by simp [spec_StoreFault.l0] at h
 | k + 1 => by
  have ih0 := spec_StoreFault.mono_l k
  ·
   intro y0 y1
   unfold spec_StoreFault.l0
   repeat' first
   | (with_reducible exact ih0 _ _)
   | (with_reducible exact spec_IdOf.mono _ _ _)
   | (with_reducible exact LeO.refl _)
   | (with_reducible exact LeO.none _)
   | (with_reducible refine LeO.ite ?_ ?_)
   | (with_reducible refine LeO.bind ?_ (fun _ => ?_))
   | exact ih0 _ _
   | exact spec_IdOf.mono _ _ _
   | exact LeO.none _
   | refine LeO.ite ?_ ?_
   | refine LeO.bind ?_ (fun _ => ?_)
theorem spec_StoreFault.mono : ∀ a0 k, LeO (spec_StoreFault.f k a0) (spec_StoreFault.f (k + 1) a0) := by
 intro a0 k
 have ih0 := spec_StoreFault.mono_l k
 unfold spec_StoreFault.f
 repeat' first
   | (with_reducible exact ih0 _ _)
   | (with_reducible exact spec_IdOf.mono _ _ _)
   | (with_reducible exact LeO.refl _)
   | (with_reducible exact LeO.none _)
   | (with_reducible refine LeO.ite ?_ ?_)
   | (with_reducible refine LeO.bind ?_ (fun _ => ?_))
   | exact ih0 _ _
   | exact spec_IdOf.mono _ _ _
   | exact LeO.none _
   | refine LeO.ite ?_ ?_
   | refine LeO.bind ?_ (fun _ => ?_)
def spec_StoreFault.T6 : Bool × List (List Nat × List Nat) := (true, [([], []), ([], []), ([0, 1], [0, 1]), ([2], [2]), ([3], [3]), ([], []), ([], []), ([5, 6], [5, 6]), ([7], [7]), ([8], [8]), ([4, 9], [4, 9]), ([], []), ([11, 10, 10, 0, 1, 2, 3, 4, 5, 6, 7, 8, 9, 10, 11], [10, 11])])
def spec_StoreFault.B6 : List Nat := [0, 0, 3, 7, 15, 0, 0, 96, 224, 480, 1023, 0, 4095]
theorem spec_StoreFault.tab6 : rtab .any (opsOf Tryd.f66 6) = spec_StoreFault.T6 := by kernel_rfl
theorem spec_StoreFault.bits6 : waitsOk spec_StoreFault.T6.2 spec_StoreFault.B6 = true := by kernel_rfl
def spec_StoreFault.T9 : Bool × List (List Nat × List Nat) := (true, [([], []), ([0], [0]), ([], []), ([], []), ([2, 3], [2, 3]), ([4], [4]), ([5], [5]), ([1, 6], [1, 6]), ([7], [7]), ([8], [8]), ([9, 8], [8, 9]), ([10, 8, 8], [8, 10]), ([11], [11]), ([11], [11]), ([12, 13, 11], [11, 12, 13]), ([14, 11], [11, 14]), ([15, 11], [11, 15]), ([11], [11]), ([11], [11]), ([18, 11], [11, 18]), ([17, 19, 11], [11, 17, 19]), ([20, 11], [11, 20]), ([21, 11], [11, 21]), ([16, 22, 11], [11, 16, 22]), ([11, 23, 8], [8, 11, 23]), ([8, 24], [8, 24])])
def spec_StoreFault.B9 : List Nat := [0, 1, 0, 0, 12, 28, 60, 127, 255, 511, 1023, 2047, 4095, 4095, 16383, 32767, 65535, 4095, 4095, 266239, 921599, 1970175, 4067327, 8388607, 16777215, 33554431]
theorem spec_StoreFault.tab9 : rtab .any (opsOf Tryd.f66 9) = spec_StoreFault.T9 := by kernel_rfl
theorem spec_StoreFault.bits9 : waitsOk spec_StoreFault.T9.2 spec_StoreFault.B9 = true := by kernel_rfl
set_option maxHeartbeats 8000000 in
set_option maxRecDepth 100000 in
theorem spec_StoreFault.calls (k : Nat) (A0 : Option Addr) (c0 : Nat) (l0 : List (S96)) (r : Int) (w : World) (hr0 : Kd.C k96 w A0 l0.length l0) (hc0 : l0.length ≤ c0) (h : spec_StoreFault.f k l0 = some r) :
  Calls Tryd.prog 66 #[.slice A0 l0.length c0] w fun e w' => e = .returned (.int .i64 r) ∧ Below w.heap.size w w' := by
 have hu36 := Tryd.underlying36
 have HR0 := zK hr0
 have HC0 := zK hc0
 clear hr0 hc0
 have HB := zK (Below.refl w.heap.size w)
 have H : (if (l0.length : Int) > 200 then (some 2) else (spec_StoreFault.l0 k l0 0)) = some r := h
 clear h
 by_cases c2 : (l0.length : Int) > 200
 ·
  rw [if_pos c2] at H
  have c2b0 : decide (200 < (l0.length : Int)) = true := decide_eq_true c2
  have c2b1 : decide (200 < l0.length) = true := decide_eq_true (by omega)
  clear c2
  obtain rfl := Option.some.inj H
  go_enter Tryd.func66, Tryd.ntmps66
  go_wp2
  go_ret
  exact ⟨by first | rfl | (simp [errW_none, errW_some] <;> rfl) | (simp [*, errW_none, errW_some] <;> rfl), by repeat (first | (with_reducible first | exact HB.out | apply zA | apply zN | apply zD) | exact HB.out)⟩
 ·
  rw [if_neg c2] at H
  have c2b0 : decide (200 < (l0.length : Int)) = false := decide_eq_false c2
  have c2b1 : decide (200 < l0.length) = false := decide_eq_false (by omega)
  clear c2
  have H' := zK H
  clear H
  go_enter Tryd.func66, Tryd.ntmps66
  go_wp2
  go_loopg [3] k (fun kq v3 w' => ∃ (x3_1 : Int), v3 = .int .i64 x3_1 ∧ Aside0 (spec_StoreFault.l0 kq l0 x3_1 = some r) ∧ Aside0 (kq ≤ k) ∧ Aside0 (Below w.heap.size w w'))
  case atStart => exact ⟨(0), (by first | rfl | (simp; done) | (simp [*]; done)), H', ⟨Nat.le_refl _⟩, ⟨by repeat (first | (with_reducible first | exact HB.out | apply zA | apply zN | apply zD) | exact HB.out)⟩⟩
  case round =>
   clear H'
   try clear c2
   try clear c2b0
   try clear c2b1
   try clear p2
   obtain ⟨x3_1, rfl, HA, HK1, HB⟩ := hrel
   cases gk with
   | zero => exact absurd HA.out (by simp [spec_StoreFault.l0])
   | succ k1 =>
    have H := HA.out
    clear HA
    simp only [spec_StoreFault.l0] at H
    by_cases c3 : x3_1 < (l0.length : Int)
    ·
     rw [if_pos c3] at H
     have c3b0 : decide (x3_1 < (l0.length : Int)) = true := decide_eq_true c3
     clear c3
     by_cases c4 : 0 ≤ x3_1
     ·
      rw [if_pos c4] at H
      have c4b0 : decide (0 ≤ x3_1) = true := decide_eq_true c4
      clear c4
      replace H := Option.bind_eq_some_iff.mp H
      obtain ⟨⟨t125, t126⟩, A50, H⟩ := H
      replace H : (if t125 = 0 then (if t126.toList = ((rd_T96 l0 x3_1).f0).toList then (if x3_1 > 0 then (if 0 ≤ (wrap64 (x3_1 - 1)) then (if (wrap64 (x3_1 - 1)) < (l0.length : Int) then (if ((Op.bytesLess (((rd_T96 l0 (wrap64 (x3_1 - 1))).f0).toList) (((rd_T96 l0 x3_1).f0).toList)) = true) then (spec_StoreFault.l0 k1 l0 (wrap64 (x3_1 + 1))) else (some 1)) else (none)) else (none)) else (spec_StoreFault.l0 k1 l0 (wrap64 (x3_1 + 1)))) else (some 1)) else (some t125)) = some r := H
      have A5 := zK A50
      clear A50
      by_cases c6 : t125 = 0
      ·
       rw [if_pos c6] at H
       have c6b0 : (t125 == 0) = true := beq_iff_eq.mpr c6
       have c6b1 : (t125 != 0) = false := bne_eq_false_iff_eq.mpr c6
       clear c6
       by_cases c7 : t126.toList = ((rd_T96 l0 x3_1).f0).toList
       ·
        rw [if_pos c7] at H
        have c7b0 : (t126.toList == ((rd_T96 l0 x3_1).f0).toList) = true := beq_iff_eq.mpr c7
        have c7b1 : (t126.toList != ((rd_T96 l0 x3_1).f0).toList) = false := bne_eq_false_iff_eq.mpr c7
        clear c7
        by_cases c8 : x3_1 > 0
        ·
         rw [if_pos c8] at H
         have c8b0 : decide (0 < x3_1) = true := decide_eq_true c8
         clear c8
         obtain ⟨ji9, hji9⟩ : ∃ j_ : Int, (wrap64 (x3_1 - 1)) = j_ := ⟨_, rfl⟩
         replace H : (if 0 ≤ (ji9) then (if (ji9) < (l0.length : Int) then (if ((Op.bytesLess (((rd_T96 l0 (ji9)).f0).toList) (((rd_T96 l0 x3_1).f0).toList)) = true) then (spec_StoreFault.l0 k1 l0 (wrap64 (x3_1 + 1))) else (some 1)) else (none)) else (none)) = some r := by first | (rw [hji9] at H; exact H) | (simp only [hji9] at H ⊢; exact H)
         (try rw [hji9] at A5)
         have hji9w : (IntKind.i64.wrap (x3_1 - 1)) = ji9 := (i64_w _).trans hji9
         by_cases c10 : 0 ≤ (ji9)
         ·
          rw [if_pos c10] at H
          have c10b0 : decide (0 ≤ (ji9)) = true := decide_eq_true c10
          clear c10
          by_cases c11 : (ji9) < (l0.length : Int)
          ·
           rw [if_pos c11] at H
           have c11b0 : decide ((ji9) < (l0.length : Int)) = true := decide_eq_true c11
           clear c11
           by_cases c12 : ((Op.bytesLess (((rd_T96 l0 (ji9)).f0).toList) (((rd_T96 l0 x3_1).f0).toList)) = true)
           ·
            rw [if_pos c12] at H
            have c12b0 : (Op.bytesLess (((rd_T96 l0 (ji9)).f0).toList) (((rd_T96 l0 x3_1).f0).toList)) = true := c12
            clear c12
            have H' := zK H
            clear H
            try go_wp2
            have n0_ := zK (zD HB.out)
            clear HB
            have HB := n0_
            clear n0_
            have p123 : 0 ≤ (x3_1 : Int) := zX (by first | (with_reducible assumption) | assumption)
            have q123 : x3_1 < (l0.length : Int) := zX (by first | (with_reducible assumption) | assumption)
            obtain ⟨ad123, e123, hx123_0, hx123_1, hx123_2⟩ := at_T96 HR0.out x3_1 p123 q123
            have hw123_2 := hx123_2
            have hw123_1 := hx123_1
            have hw123_0 := hx123_0
            cases e123
            replace hx123_0 := (HB.out.cell (zL w _ hx123_0)).trans hx123_0
            replace hx123_1 := (HB.out.cell (zL w _ hx123_1)).trans hx123_1
            replace hx123_2 := (HB.out.cell (zL w _ hx123_2)).trans hx123_2
            replace p123 := eq_true p123
            replace q123 := eq_true q123
            have p124 : 0 ≤ (x3_1 : Int) := zX (by first | (with_reducible assumption) | assumption)
            have q124 : x3_1 < (l0.length : Int) := zX (by first | (with_reducible assumption) | assumption)
            obtain ⟨ad124, e124, hx124_0, hx124_1, hx124_2⟩ := at_T96 HR0.out x3_1 p124 q124
            have hw124_2 := hx124_2
            have hw124_1 := hx124_1
            have hw124_0 := hx124_0
            obtain rfl : ad123 = ad124 := (by injection e124)
            replace hx124_0 := (HB.out.cell (zL w _ hx124_0)).trans hx124_0
            replace hx124_1 := (HB.out.cell (zL w _ hx124_1)).trans hx124_1
            replace hx124_2 := (HB.out.cell (zL w _ hx124_2)).trans hx124_2
            replace p124 := eq_true p124
            replace q124 := eq_true q124
            refine start_ (n := 13) (S := fun w' => w'.cell? (ad123.add ((x3_1).toNat * 3)) = some (.string ((rd_T96 l0 x3_1).f0)) ∧ w'.cell? ⟨(ad123.add ((x3_1).toNat * 3)).block, (ad123.add ((x3_1).toNat * 3)).off + 1, none⟩ = some (.int .i64 ((rd_T96 l0 x3_1).f1)) ∧ w'.cell? ⟨(ad123.add ((x3_1).toNat * 3)).block, (ad123.add ((x3_1).toNat * 3)).off + 2, none⟩ = some (.string ((rd_T96 l0 x3_1).f2)) ∧ w'.cell? (ad123.add ((x3_1).toNat * 3)) = some (.string ((rd_T96 l0 x3_1).f0)) ∧ w'.cell? ⟨(ad123.add ((x3_1).toNat * 3)).block, (ad123.add ((x3_1).toNat * 3)).off + 1, none⟩ = some (.int .i64 ((rd_T96 l0 x3_1).f1)) ∧ w'.cell? ⟨(ad123.add ((x3_1).toNat * 3)).block, (ad123.add ((x3_1).toNat * 3)).off + 2, none⟩ = some (.string ((rd_T96 l0 x3_1).f2))) (ds := []) #[zF,zF,zF,zF,zF,zF,zF,zF,zF,zF,zF,zF,zF] (by kernel_rfl) rfl rfl ⟨((HB.out.cell (zL w _ hw123_0)).trans hw123_0), ((HB.out.cell (zL w _ hw123_1)).trans hw123_1), ((HB.out.cell (zL w _ hw123_2)).trans hw123_2), ((HB.out.cell (zL w _ hw124_0)).trans hw124_0), ((HB.out.cell (zL w _ hw124_1)).trans hw124_1), ((HB.out.cell (zL w _ hw124_2)).trans hw124_2)⟩ (fun hHeld => ?_); refine with_tabW spec_StoreFault.tab6 spec_StoreFault.bits6 (fun HT_ HW_ => ?_)
            generalize wr.drew = w13 at HB hx123_0 hx123_1 hx123_2 hx124_0 hx124_1 hx124_2 hHeld ⊢
            refine pure_ (i := 0) (N := some 14) (v := ?_) (a' := ?_) #[zB,zF,zF,zF,zF,zF,zF,zF,zF,zF,zF,zF,zF] rfl rfl (any_of HT_.out (by kernel_rfl)) (fun _ _ _ h => h) (Or.inl ⟨by rfl, ?_⟩) ?_ ?_
            rotate_left
            ·
             intro w'
             go_simp
             with_reducible rfl
            rotate_left
            ·
             simp only [Act.put, zS, zT, zU, i64_w, i32_w]
             rfl
            refine pure_ (i := 1) (N := some 15) (v := ?_) (a' := ?_) #[zB,zB,zF,zF,zF,zF,zF,zF,zF,zF,zF,zF,zF] rfl rfl (any_of HT_.out (by kernel_rfl)) (fun _ _ _ h => h) (Or.inl ⟨by rfl, ?_⟩) ?_ ?_
            rotate_left
            ·
             intro w'
             go_simp
             with_reducible rfl
            rotate_left
            ·
             simp only [Act.put, zS, zT, zU, i64_w, i32_w]
             rfl
            refine pure_ (i := 2) (N := some 16) (v := ?_) (a' := ?_) #[zB,zB,zB,zF,zF,zF,zF,zF,zF,zF,zF,zF,zF] rfl rfl (any_of HT_.out (by kernel_rfl)) (fun _ _ _ h => h) (Or.inl ⟨by rfl, ?_⟩) ?_ ?_
            rotate_left
            ·
             intro w'
             go_simp
             with_reducible rfl
            rotate_left
            ·
             simp only [Act.put, zS, zT, zU, i64_w, i32_w]
             rfl
            refine pure_ (i := 3) (N := some 17) (v := ?_) (a' := ?_) #[zB,zB,zB,zB,zF,zF,zF,zF,zF,zF,zF,zF,zF] rfl rfl (any_of HT_.out (by kernel_rfl)) (fun _ _ _ h => h) (Or.inl ⟨by rfl, ?_⟩) ?_ ?_
            rotate_left
            ·
             intro w'
             go_simp
             with_reducible rfl
            rotate_left
            ·
             simp only [Act.put, zS, zT, zU, i64_w, i32_w]
             rfl
            refine pure_ (i := 5) (N := some 19) (v := ?_) (a' := ?_) #[zB,zB,zB,zB,zF,zB,zF,zF,zF,zF,zF,zF,zF] rfl rfl (any_of HT_.out (by kernel_rfl)) (fun _ _ _ h => h) (Or.inl ⟨by rfl, ?_⟩) ?_ ?_
            rotate_left
            ·
             intro w'
             go_simp
             with_reducible rfl
            rotate_left
            ·
             simp only [Act.put, zS, zT, zU, i64_w, i32_w]
             rfl
            refine pure_ (i := 6) (N := some 20) (v := ?_) (a' := ?_) #[zB,zB,zB,zB,zF,zB,zB,zF,zF,zF,zF,zF,zF] rfl rfl (any_of HT_.out (by kernel_rfl)) (fun _ _ _ h => h) (Or.inl ⟨by rfl, ?_⟩) ?_ ?_
            rotate_left
            ·
             intro w'
             go_simp
             with_reducible rfl
            rotate_left
            ·
             simp only [Act.put, zS, zT, zU, i64_w, i32_w]
             rfl
            refine pure_ (i := 7) (N := some 21) (v := ?_) (a' := ?_) #[zB,zB,zB,zB,zF,zB,zB,zB,zF,zF,zF,zF,zF] rfl rfl (any_of HT_.out (by kernel_rfl)) (fun _ _ _ h => h) (Or.inl ⟨by rfl, ?_⟩) ?_ ?_
            rotate_left
            ·
             intro w'
             go_simp
             with_reducible rfl
            rotate_left
            ·
             simp only [Act.put, zS, zT, zU, i64_w, i32_w]
             rfl
            refine pure_ (i := 8) (N := some 22) (v := ?_) (a' := ?_) #[zB,zB,zB,zB,zF,zB,zB,zB,zB,zF,zF,zF,zF] rfl rfl (any_of HT_.out (by kernel_rfl)) (fun _ _ _ h => h) (Or.inl ⟨by rfl, ?_⟩) ?_ ?_
            rotate_left
            ·
             intro w'
             go_simp
             with_reducible rfl
            rotate_left
            ·
             simp only [Act.put, zS, zT, zU, i64_w, i32_w]
             rfl
            refine take_ (i := 4) (N := some 18) (v := ?_) (a' := ?_) #[zB,zB,zB,zB,zB,zB,zB,zB,zB,zF,zF,zF,zF] rfl rfl (take_ofW HT_.out HW_.out (by kernel_rfl)) (fun _ _ _ h => h) (Or.inl ⟨by rfl, ?_⟩) hHeld ?_ ?_
            rotate_left
            ·
             rintro w' ⟨s0, s1, s2, s3, s4, s5⟩
             go_simp
             with_reducible rfl
            rotate_left
            ·
             simp only [Act.put, zS, zT, zU, i64_w, i32_w]
             rfl
            refine take_ (i := 9) (N := some 23) (v := ?_) (a' := ?_) #[zB,zB,zB,zB,zB,zB,zB,zB,zB,zB,zF,zF,zF] rfl rfl (take_ofW HT_.out HW_.out (by kernel_rfl)) (fun _ _ _ h => h) (Or.inl ⟨by rfl, ?_⟩) hHeld ?_ ?_
            rotate_left
            ·
             rintro w' ⟨s0, s1, s2, s3, s4, s5⟩
             go_simp
             with_reducible rfl
            rotate_left
            ·
             simp only [Act.put, zS, zT, zU, i64_w, i32_w]
             rfl
            refine join_ (σ := Nat) 1 #[zB,zB,zB,zB,zB,zB,zB,zB,zB,zB,zB,zB,zF] (fun s_ => [(24, .agg #[.int .i64 t125, .string t126]), (4, .pointer (some ⟨s_, 0, none⟩))]) (fun s_ w' => (w'.cell? (ad123.add ((x3_1).toNat * 3)) = some (.string ((rd_T96 l0 x3_1).f0)) ∧ w'.cell? ⟨(ad123.add ((x3_1).toNat * 3)).block, (ad123.add ((x3_1).toNat * 3)).off + 1, none⟩ = some (.int .i64 ((rd_T96 l0 x3_1).f1)) ∧ w'.cell? ⟨(ad123.add ((x3_1).toNat * 3)).block, (ad123.add ((x3_1).toNat * 3)).off + 2, none⟩ = some (.string ((rd_T96 l0 x3_1).f2)) ∧ w'.cell? (ad123.add ((x3_1).toNat * 3)) = some (.string ((rd_T96 l0 x3_1).f0)) ∧ w'.cell? ⟨(ad123.add ((x3_1).toNat * 3)).block, (ad123.add ((x3_1).toNat * 3)).off + 1, none⟩ = some (.int .i64 ((rd_T96 l0 x3_1).f1)) ∧ w'.cell? ⟨(ad123.add ((x3_1).toNat * 3)).block, (ad123.add ((x3_1).toNat * 3)).off + 2, none⟩ = some (.string ((rd_T96 l0 x3_1).f2))) ∧ (w'.heap[s_]? = some (.cells #[.int .i64 0, .string (⟨#[]⟩ : ByteArray)] 36 (0, 0))) ∧ (w.heap.size ≤ s_) ∧ (w.heap.size ≤ s_) ∧ (Below w.heap.size w w')) ?_ ?_
            rotate_left
            ·
             intro hCont
             refine two_ (i := 10) (j := 11) (Ni := some 24) (Nj := some 4) #[zB,zB,zB,zB,zB,zB,zB,zB,zB,zB,zB,zF,zF] #[zB,zB,zB,zB,zB,zB,zB,zB,zB,zB,zF,zB,zF] rfl rfl rfl rfl (two_of HT_.out (by kernel_rfl)) (by decide) (by decide) (fun K hK => ?_) (fun K hK => ?_)
             ·
              skip
              refine goes_ Tryd.func67 (by kernel_rfl) rfl #[.int .i64 ((rd_T96 l0 x3_1).f1), .string ((rd_T96 l0 x3_1).f2)] (by rfl) rfl rfl (by (try simp only [List.map_toArray, List.map_cons, List.map_nil]); first | done | rfl | (simp only [List.length_drop, List.length_take]; rfl)) ?_
              with_reducible refine (spec_IdOf.calls k1 ((rd_T96 l0 x3_1).f1) ((rd_T96 l0 x3_1).f2) t125 t126 _ A5.out).mono ?_
              rintro e w14 ⟨rfl, hb⟩
              refine ⟨_, rfl, ?_⟩
              have n0_ := zK (below_step (by repeat (first | (with_reducible first | exact HB.out | apply zA | apply zN | apply zD) | exact HB.out)) hb)
              clear HB
              have HB := n0_
              clear n0_
              (try clear hb)
              (try clear hb2)
              (try clear hk)
              (try clear hi)
              refine hK.out _ _ ⟨((HB.out.cell (zL w _ hw123_0)).trans hw123_0), ((HB.out.cell (zL w _ hw123_1)).trans hw123_1), ((HB.out.cell (zL w _ hw123_2)).trans hw123_2), ((HB.out.cell (zL w _ hw124_0)).trans hw124_0), ((HB.out.cell (zL w _ hw124_1)).trans hw124_1), ((HB.out.cell (zL w _ hw124_2)).trans hw124_2)⟩ (fun hHeld => ?_)
              clear hK K
              refine norm_ (a' := ?_) ?_ ?_
              rotate_left
              ·
               show Act.put _ (some 24) _ = _
               simp only [Act.put, zS, zT, zU, i64_w, i32_w]
               rfl
              refine one_ (i := 11) (N := some 4) #[zB,zB,zB,zB,zB,zB,zB,zB,zB,zB,zB,zB,zF] rfl rfl (one_of HT_.out (by kernel_rfl)) (by decide) (fun K hK => ?_)
              refine box_step ?hg (N := 4) ?hd (cs := #[.int .i64 0, .string (⟨#[]⟩ : ByteArray)]) (t := 36) ?hr ?_; (case hd => rfl); (case hg => rfl); (case hr => first | (go_simp; done) | (go_simp; rfl))
              intro gb127 hg w15 hbox hb
              have n0_ := zK (below_step (by repeat (first | (with_reducible first | exact HB.out | apply zA | apply zN | apply zD) | exact HB.out)) hb)
              have n1_ := zK (hbox)
              have n2_ := zK ((by rw [hg]; exact (below_size (by repeat (first | (with_reducible first | exact HB.out | apply zA | apply zN | apply zD) | exact HB.out))) : w.heap.size ≤ gb127))
              have n3_ := zK ((by rw [hg]; exact (below_size (by repeat (first | (with_reducible first | exact HB.out | apply zA | apply zN | apply zD) | exact HB.out))) : w.heap.size ≤ gb127))
              clear HB
              have HB := n0_
              have BK127 := n1_
              have GW127 := n2_
              have GE127 := n3_
              clear n0_ n1_ n2_ n3_
              clear hb hbox hg
              refine hK.out _ _ ⟨((HB.out.cell (zL w _ hw123_0)).trans hw123_0), ((HB.out.cell (zL w _ hw123_1)).trans hw123_1), ((HB.out.cell (zL w _ hw123_2)).trans hw123_2), ((HB.out.cell (zL w _ hw124_0)).trans hw124_0), ((HB.out.cell (zL w _ hw124_1)).trans hw124_1), ((HB.out.cell (zL w _ hw124_2)).trans hw124_2)⟩ (fun hHeld => ?_)
              clear hK K
              refine norm_ (a' := ?_) ?_ ?_
              rotate_left
              ·
               show Act.put _ (some 4) _ = _
               simp only [Act.put, zS, zT, zU, i64_w, i32_w]
               rfl
              exact norm_ (by simp only [putAll, Act.put, zS, zT, zU]) (hCont (gb127) _ ⟨hHeld, (by (with_reducible repeat (first | refine zM ?_ _ | refine zP ?_ | refine zQ ?_ _)); exact BK127.out), GW127.out, GE127.out, (by repeat (first | (with_reducible first | exact HB.out | apply zA | apply zN | apply zD | refine below_set ?_ GE127.out) | exact HB.out))⟩)
             ·
              skip
              refine box_step ?hg (N := 4) ?hd (cs := #[.int .i64 0, .string (⟨#[]⟩ : ByteArray)]) (t := 36) ?hr ?_; (case hd => rfl); (case hg => rfl); (case hr => first | (go_simp; done) | (go_simp; rfl))
              intro gb127 hg w14 hbox hb
              have n0_ := zK (below_step (by repeat (first | (with_reducible first | exact HB.out | apply zA | apply zN | apply zD) | exact HB.out)) hb)
              have n1_ := zK (hbox)
              have n2_ := zK ((by rw [hg]; exact (below_size (by repeat (first | (with_reducible first | exact HB.out | apply zA | apply zN | apply zD) | exact HB.out))) : w.heap.size ≤ gb127))
              have n3_ := zK ((by rw [hg]; exact (below_size (by repeat (first | (with_reducible first | exact HB.out | apply zA | apply zN | apply zD) | exact HB.out))) : w.heap.size ≤ gb127))
              clear HB
              have HB := n0_
              have BK127 := n1_
              have GW127 := n2_
              have GE127 := n3_
              clear n0_ n1_ n2_ n3_
              clear hb hbox hg
              refine hK.out _ _ ⟨((HB.out.cell (zL w _ hw123_0)).trans hw123_0), ((HB.out.cell (zL w _ hw123_1)).trans hw123_1), ((HB.out.cell (zL w _ hw123_2)).trans hw123_2), ((HB.out.cell (zL w _ hw124_0)).trans hw124_0), ((HB.out.cell (zL w _ hw124_1)).trans hw124_1), ((HB.out.cell (zL w _ hw124_2)).trans hw124_2)⟩ (fun hHeld => ?_)
              clear hK K
              refine norm_ (a' := ?_) ?_ ?_
              rotate_left
              ·
               show Act.put _ (some 4) _ = _
               simp only [Act.put, zS, zT, zU, i64_w, i32_w]
               rfl
              refine one_ (i := 10) (N := some 24) #[zB,zB,zB,zB,zB,zB,zB,zB,zB,zB,zB,zB,zF] rfl rfl (one_of HT_.out (by kernel_rfl)) (by decide) (fun K hK => ?_)
              refine goes_ Tryd.func67 (by kernel_rfl) rfl #[.int .i64 ((rd_T96 l0 x3_1).f1), .string ((rd_T96 l0 x3_1).f2)] (by rfl) rfl rfl (by (try simp only [List.map_toArray, List.map_cons, List.map_nil]); first | done | rfl | (simp only [List.length_drop, List.length_take]; rfl)) ?_
              with_reducible refine (spec_IdOf.calls k1 ((rd_T96 l0 x3_1).f1) ((rd_T96 l0 x3_1).f2) t125 t126 _ A5.out).mono ?_
              rintro e w15 ⟨rfl, hb⟩
              refine ⟨_, rfl, ?_⟩
              have n0_ := zK (blk_below (g := gb127) (o := .cells #[.int .i64 0, .string (⟨#[]⟩ : ByteArray)] 36 (0, 0)) (by (with_reducible repeat (first | refine zM ?_ _ | refine zP ?_ | refine zQ ?_ _)); exact BK127.out) hb)
              have n1_ := zK (below_step (by repeat (first | (with_reducible first | exact HB.out | apply zA | apply zN | apply zD | refine below_set ?_ GE127.out) | exact HB.out)) hb)
              clear BK127
              clear HB
              have BK127 := n0_
              have HB := n1_
              clear n0_ n1_
              (try clear hb)
              (try clear hb2)
              (try clear hk)
              (try clear hi)
              refine hK.out _ _ ⟨((HB.out.cell (zL w _ hw123_0)).trans hw123_0), ((HB.out.cell (zL w _ hw123_1)).trans hw123_1), ((HB.out.cell (zL w _ hw123_2)).trans hw123_2), ((HB.out.cell (zL w _ hw124_0)).trans hw124_0), ((HB.out.cell (zL w _ hw124_1)).trans hw124_1), ((HB.out.cell (zL w _ hw124_2)).trans hw124_2)⟩ (fun hHeld => ?_)
              clear hK K
              refine norm_ (a' := ?_) ?_ ?_
              rotate_left
              ·
               show Act.put _ (some 24) _ = _
               simp only [Act.put, zS, zT, zU, i64_w, i32_w]
               rfl
              exact norm_ (by simp only [putAll, Act.put, zS, zT, zU]) (hCont (gb127) _ ⟨hHeld, (by (with_reducible repeat (first | refine zM ?_ _ | refine zP ?_ | refine zQ ?_ _)); exact BK127.out), GW127.out, GE127.out, (by repeat (first | (with_reducible first | exact HB.out | apply zA | apply zN | apply zD | refine below_set ?_ GE127.out) | exact HB.out))⟩)
            rintro gb127 w16 ⟨hS_, h0_, h1_, h2_, h3_⟩
            have n0_ : Aside0 (w16.heap[gb127]? = some (.cells #[.int .i64 0, .string (⟨#[]⟩ : ByteArray)] 36 (0, 0))) := ⟨h0_⟩
            have n1_ : Aside0 (w.heap.size ≤ gb127) := ⟨h1_⟩
            have n2_ : Aside0 (w.heap.size ≤ gb127) := ⟨h2_⟩
            have n3_ : Aside0 (Below w.heap.size w w16) := ⟨h3_⟩
            clear HB
            clear h0_ h1_ h2_ h3_
            have BK127 := n0_
            have GW127 := n1_
            have GE127 := n2_
            have HB := n3_
            clear n0_ n1_ n2_ n3_
            have hHeld : w16.cell? (ad123.add ((x3_1).toNat * 3)) = some (.string ((rd_T96 l0 x3_1).f0)) ∧ w16.cell? ⟨(ad123.add ((x3_1).toNat * 3)).block, (ad123.add ((x3_1).toNat * 3)).off + 1, none⟩ = some (.int .i64 ((rd_T96 l0 x3_1).f1)) ∧ w16.cell? ⟨(ad123.add ((x3_1).toNat * 3)).block, (ad123.add ((x3_1).toNat * 3)).off + 2, none⟩ = some (.string ((rd_T96 l0 x3_1).f2)) ∧ w16.cell? (ad123.add ((x3_1).toNat * 3)) = some (.string ((rd_T96 l0 x3_1).f0)) ∧ w16.cell? ⟨(ad123.add ((x3_1).toNat * 3)).block, (ad123.add ((x3_1).toNat * 3)).off + 1, none⟩ = some (.int .i64 ((rd_T96 l0 x3_1).f1)) ∧ w16.cell? ⟨(ad123.add ((x3_1).toNat * 3)).block, (ad123.add ((x3_1).toNat * 3)).off + 2, none⟩ = some (.string ((rd_T96 l0 x3_1).f2)) := hS_
            refine norm_ (a' := ?_) ?_ ?_
            rotate_left
            ·
             simp only [putAll, Act.put, zS, zT, zU]
             rfl
            refine one_ (i := 12) (N := none) #[zB,zB,zB,zB,zB,zB,zB,zB,zB,zB,zB,zB,zB] rfl rfl (one_of HT_.out (by kernel_rfl)) (by decide) (fun K hK => ?_)
            have hs17 : w16.cell? ⟨gb127, 0, none⟩ = some (.int .i64 0) := (blk_cell BK127.out 0).trans rfl
            have hfs17 := blk_frozen BK127.out 0
            have hs18 : w16.cell? ⟨gb127, 1, none⟩ = some (.string (⟨#[]⟩ : ByteArray)) := (blk_cell BK127.out 1).trans rfl
            have hfs18 := blk_frozen BK127.out 1
            refine skip_ (w1 := ?_) (by rfl) rfl ?_ ?_
            rotate_left
            ·
             go_simp
             rfl
            refine hK.out _ _ ⟨((cell_far (p := ⟨gb127, _, none⟩) (by first | exact Nat.ne_of_lt (Nat.lt_of_lt_of_le (by have := zL _ _ hw123_0; first | rwa [add_block] at this | exact this) GW127.out) | (rw [add_block]; exact Nat.ne_of_lt (Nat.lt_of_lt_of_le (by have := zL _ _ hw123_0; first | rwa [add_block] at this | exact this) GW127.out)) | (show (Addr.add _ _).block ≠ _; rw [add_block]; exact Nat.ne_of_lt (Nat.lt_of_lt_of_le (by have := zL _ _ hw123_0; first | rwa [add_block] at this | exact this) GW127.out)) | (dsimp only; exact Nat.ne_of_lt (Nat.lt_of_lt_of_le (by have := zL _ _ hw123_0; first | rwa [add_block] at this | exact this) GW127.out))) _).trans (((cell_far (p := ⟨gb127, _, none⟩) (by first | exact Nat.ne_of_lt (Nat.lt_of_lt_of_le (by have := zL _ _ hw123_0; first | rwa [add_block] at this | exact this) GW127.out) | (rw [add_block]; exact Nat.ne_of_lt (Nat.lt_of_lt_of_le (by have := zL _ _ hw123_0; first | rwa [add_block] at this | exact this) GW127.out)) | (show (Addr.add _ _).block ≠ _; rw [add_block]; exact Nat.ne_of_lt (Nat.lt_of_lt_of_le (by have := zL _ _ hw123_0; first | rwa [add_block] at this | exact this) GW127.out)) | (dsimp only; exact Nat.ne_of_lt (Nat.lt_of_lt_of_le (by have := zL _ _ hw123_0; first | rwa [add_block] at this | exact this) GW127.out))) _).trans (hHeld.1)))), ((cell_far (p := ⟨gb127, _, none⟩) (by first | exact Nat.ne_of_lt (Nat.lt_of_lt_of_le (by have := zL _ _ hw123_1; first | rwa [add_block] at this | exact this) GW127.out) | (rw [add_block]; exact Nat.ne_of_lt (Nat.lt_of_lt_of_le (by have := zL _ _ hw123_1; first | rwa [add_block] at this | exact this) GW127.out)) | (show (Addr.add _ _).block ≠ _; rw [add_block]; exact Nat.ne_of_lt (Nat.lt_of_lt_of_le (by have := zL _ _ hw123_1; first | rwa [add_block] at this | exact this) GW127.out)) | (dsimp only; exact Nat.ne_of_lt (Nat.lt_of_lt_of_le (by have := zL _ _ hw123_1; first | rwa [add_block] at this | exact this) GW127.out))) _).trans (((cell_far (p := ⟨gb127, _, none⟩) (by first | exact Nat.ne_of_lt (Nat.lt_of_lt_of_le (by have := zL _ _ hw123_1; first | rwa [add_block] at this | exact this) GW127.out) | (rw [add_block]; exact Nat.ne_of_lt (Nat.lt_of_lt_of_le (by have := zL _ _ hw123_1; first | rwa [add_block] at this | exact this) GW127.out)) | (show (Addr.add _ _).block ≠ _; rw [add_block]; exact Nat.ne_of_lt (Nat.lt_of_lt_of_le (by have := zL _ _ hw123_1; first | rwa [add_block] at this | exact this) GW127.out)) | (dsimp only; exact Nat.ne_of_lt (Nat.lt_of_lt_of_le (by have := zL _ _ hw123_1; first | rwa [add_block] at this | exact this) GW127.out))) _).trans (hHeld.2.1)))), ((cell_far (p := ⟨gb127, _, none⟩) (by first | exact Nat.ne_of_lt (Nat.lt_of_lt_of_le (by have := zL _ _ hw123_2; first | rwa [add_block] at this | exact this) GW127.out) | (rw [add_block]; exact Nat.ne_of_lt (Nat.lt_of_lt_of_le (by have := zL _ _ hw123_2; first | rwa [add_block] at this | exact this) GW127.out)) | (show (Addr.add _ _).block ≠ _; rw [add_block]; exact Nat.ne_of_lt (Nat.lt_of_lt_of_le (by have := zL _ _ hw123_2; first | rwa [add_block] at this | exact this) GW127.out)) | (dsimp only; exact Nat.ne_of_lt (Nat.lt_of_lt_of_le (by have := zL _ _ hw123_2; first | rwa [add_block] at this | exact this) GW127.out))) _).trans (((cell_far (p := ⟨gb127, _, none⟩) (by first | exact Nat.ne_of_lt (Nat.lt_of_lt_of_le (by have := zL _ _ hw123_2; first | rwa [add_block] at this | exact this) GW127.out) | (rw [add_block]; exact Nat.ne_of_lt (Nat.lt_of_lt_of_le (by have := zL _ _ hw123_2; first | rwa [add_block] at this | exact this) GW127.out)) | (show (Addr.add _ _).block ≠ _; rw [add_block]; exact Nat.ne_of_lt (Nat.lt_of_lt_of_le (by have := zL _ _ hw123_2; first | rwa [add_block] at this | exact this) GW127.out)) | (dsimp only; exact Nat.ne_of_lt (Nat.lt_of_lt_of_le (by have := zL _ _ hw123_2; first | rwa [add_block] at this | exact this) GW127.out))) _).trans (hHeld.2.2.1)))), ((cell_far (p := ⟨gb127, _, none⟩) (by first | exact Nat.ne_of_lt (Nat.lt_of_lt_of_le (by have := zL _ _ hw124_0; first | rwa [add_block] at this | exact this) GW127.out) | (rw [add_block]; exact Nat.ne_of_lt (Nat.lt_of_lt_of_le (by have := zL _ _ hw124_0; first | rwa [add_block] at this | exact this) GW127.out)) | (show (Addr.add _ _).block ≠ _; rw [add_block]; exact Nat.ne_of_lt (Nat.lt_of_lt_of_le (by have := zL _ _ hw124_0; first | rwa [add_block] at this | exact this) GW127.out)) | (dsimp only; exact Nat.ne_of_lt (Nat.lt_of_lt_of_le (by have := zL _ _ hw124_0; first | rwa [add_block] at this | exact this) GW127.out))) _).trans (((cell_far (p := ⟨gb127, _, none⟩) (by first | exact Nat.ne_of_lt (Nat.lt_of_lt_of_le (by have := zL _ _ hw124_0; first | rwa [add_block] at this | exact this) GW127.out) | (rw [add_block]; exact Nat.ne_of_lt (Nat.lt_of_lt_of_le (by have := zL _ _ hw124_0; first | rwa [add_block] at this | exact this) GW127.out)) | (show (Addr.add _ _).block ≠ _; rw [add_block]; exact Nat.ne_of_lt (Nat.lt_of_lt_of_le (by have := zL _ _ hw124_0; first | rwa [add_block] at this | exact this) GW127.out)) | (dsimp only; exact Nat.ne_of_lt (Nat.lt_of_lt_of_le (by have := zL _ _ hw124_0; first | rwa [add_block] at this | exact this) GW127.out))) _).trans (hHeld.2.2.2.1)))), ((cell_far (p := ⟨gb127, _, none⟩) (by first | exact Nat.ne_of_lt (Nat.lt_of_lt_of_le (by have := zL _ _ hw124_1; first | rwa [add_block] at this | exact this) GW127.out) | (rw [add_block]; exact Nat.ne_of_lt (Nat.lt_of_lt_of_le (by have := zL _ _ hw124_1; first | rwa [add_block] at this | exact this) GW127.out)) | (show (Addr.add _ _).block ≠ _; rw [add_block]; exact Nat.ne_of_lt (Nat.lt_of_lt_of_le (by have := zL _ _ hw124_1; first | rwa [add_block] at this | exact this) GW127.out)) | (dsimp only; exact Nat.ne_of_lt (Nat.lt_of_lt_of_le (by have := zL _ _ hw124_1; first | rwa [add_block] at this | exact this) GW127.out))) _).trans (((cell_far (p := ⟨gb127, _, none⟩) (by first | exact Nat.ne_of_lt (Nat.lt_of_lt_of_le (by have := zL _ _ hw124_1; first | rwa [add_block] at this | exact this) GW127.out) | (rw [add_block]; exact Nat.ne_of_lt (Nat.lt_of_lt_of_le (by have := zL _ _ hw124_1; first | rwa [add_block] at this | exact this) GW127.out)) | (show (Addr.add _ _).block ≠ _; rw [add_block]; exact Nat.ne_of_lt (Nat.lt_of_lt_of_le (by have := zL _ _ hw124_1; first | rwa [add_block] at this | exact this) GW127.out)) | (dsimp only; exact Nat.ne_of_lt (Nat.lt_of_lt_of_le (by have := zL _ _ hw124_1; first | rwa [add_block] at this | exact this) GW127.out))) _).trans (hHeld.2.2.2.2.1)))), ((cell_far (p := ⟨gb127, _, none⟩) (by first | exact Nat.ne_of_lt (Nat.lt_of_lt_of_le (by have := zL _ _ hw124_2; first | rwa [add_block] at this | exact this) GW127.out) | (rw [add_block]; exact Nat.ne_of_lt (Nat.lt_of_lt_of_le (by have := zL _ _ hw124_2; first | rwa [add_block] at this | exact this) GW127.out)) | (show (Addr.add _ _).block ≠ _; rw [add_block]; exact Nat.ne_of_lt (Nat.lt_of_lt_of_le (by have := zL _ _ hw124_2; first | rwa [add_block] at this | exact this) GW127.out)) | (dsimp only; exact Nat.ne_of_lt (Nat.lt_of_lt_of_le (by have := zL _ _ hw124_2; first | rwa [add_block] at this | exact this) GW127.out))) _).trans (((cell_far (p := ⟨gb127, _, none⟩) (by first | exact Nat.ne_of_lt (Nat.lt_of_lt_of_le (by have := zL _ _ hw124_2; first | rwa [add_block] at this | exact this) GW127.out) | (rw [add_block]; exact Nat.ne_of_lt (Nat.lt_of_lt_of_le (by have := zL _ _ hw124_2; first | rwa [add_block] at this | exact this) GW127.out)) | (show (Addr.add _ _).block ≠ _; rw [add_block]; exact Nat.ne_of_lt (Nat.lt_of_lt_of_le (by have := zL _ _ hw124_2; first | rwa [add_block] at this | exact this) GW127.out)) | (dsimp only; exact Nat.ne_of_lt (Nat.lt_of_lt_of_le (by have := zL _ _ hw124_2; first | rwa [add_block] at this | exact this) GW127.out))) _).trans (hHeld.2.2.2.2.2))))⟩ (fun hHeld => ?_)
            clear hK K
            refine done_ (done_of HT_.out (by kernel_rfl)) ?_
            have hcz19_0 : w16.cell? ⟨gb127, 0, none⟩ = some (.int .i64 0) := (blk_cell BK127.out 0).trans rfl
            have hcz19_1 : w16.cell? ⟨gb127, 1, none⟩ = some (.string (⟨#[]⟩ : ByteArray)) := (blk_cell BK127.out 1).trans rfl
            have hfz19_0 := blk_frozen BK127.out 0
            have hfz19_1 := blk_frozen BK127.out 1
            try go_wp2
            have n0_ : Aside0 (((w16.setCell ⟨gb127, 0, none⟩ (.int .i64 t125)).setCell ⟨gb127, 1, none⟩ (.string t126)).heap[gb127]? = some (.cells #[.int .i64 t125, .string t126] 36 (0, 0))) := ⟨by (with_reducible repeat (first | refine zM ?_ _ | refine zP ?_ | refine zQ ?_ _)); refine blk_put (cs := #[.int .i64 t125, .string (⟨#[]⟩ : ByteArray)]) ?_ 1 _ rfl; (with_reducible repeat (first | refine zM ?_ _ | refine zP ?_ | refine zQ ?_ _)); refine blk_put (cs := #[.int .i64 0, .string (⟨#[]⟩ : ByteArray)]) ?_ 0 _ rfl; (with_reducible repeat (first | refine zM ?_ _ | refine zP ?_ | refine zQ ?_ _)); exact BK127.out⟩
            have n1_ : Aside0 (Below w.heap.size w ((w16.setCell ⟨gb127, 0, none⟩ (.int .i64 t125)).setCell ⟨gb127, 1, none⟩ (.string t126))) := ⟨by repeat (first | (with_reducible first | exact HB.out | apply zA | apply zN | apply zD | refine below_set ?_ GE127.out) | exact HB.out)⟩
            (try clear BK127)
            (try clear HB)
            generalize ((w16.setCell ⟨gb127, 0, none⟩ (.int .i64 t125)).setCell ⟨gb127, 1, none⟩ (.string t126)) = w20 at n0_ n1_ ⊢
            have BK127 := n0_
            have HB := n1_
            clear n0_ n1_
            have n0_ := zK (zP BK127.out)
            have n1_ := zK (zD HB.out)
            clear BK127
            clear HB
            have BK127 := n0_
            have HB := n1_
            clear n0_ n1_
            have p128 : 0 ≤ (x3_1 : Int) := zX (by first | (with_reducible assumption) | assumption)
            have q128 : x3_1 < (l0.length : Int) := zX (by first | (with_reducible assumption) | assumption)
            obtain ⟨ad128, e128, hx128_0, hx128_1, hx128_2⟩ := at_T96 HR0.out x3_1 p128 q128
            have hw128_2 := hx128_2
            have hw128_1 := hx128_1
            have hw128_0 := hx128_0
            obtain rfl : ad123 = ad128 := (by injection e128)
            replace hx128_0 := (HB.out.cell (zL w _ hx128_0)).trans hx128_0
            replace hx128_1 := (HB.out.cell (zL w _ hx128_1)).trans hx128_1
            replace hx128_2 := (HB.out.cell (zL w _ hx128_2)).trans hx128_2
            replace p128 := eq_true p128
            replace q128 := eq_true q128
            have p129 : 0 ≤ (x3_1 : Int) := zX (by first | (with_reducible assumption) | assumption)
            have q129 : x3_1 < (l0.length : Int) := zX (by first | (with_reducible assumption) | assumption)
            obtain ⟨ad129, e129, hx129_0, hx129_1, hx129_2⟩ := at_T96 HR0.out x3_1 p129 q129
            have hw129_2 := hx129_2
            have hw129_1 := hx129_1
            have hw129_0 := hx129_0
            obtain rfl : ad123 = ad129 := (by injection e129)
            replace hx129_0 := (HB.out.cell (zL w _ hx129_0)).trans hx129_0
            replace hx129_1 := (HB.out.cell (zL w _ hx129_1)).trans hx129_1
            replace hx129_2 := (HB.out.cell (zL w _ hx129_2)).trans hx129_2
            replace p129 := eq_true p129
            replace q129 := eq_true q129
            have p130 : 0 ≤ ((ji9) : Int) := zX (by first | (with_reducible assumption) | assumption)
            have q130 : (ji9) < (l0.length : Int) := zX (by first | (with_reducible assumption) | assumption)
            obtain ⟨ad130, e130, hx130_0, hx130_1, hx130_2⟩ := at_T96 HR0.out (ji9) p130 q130
            have hw130_2 := hx130_2
            have hw130_1 := hx130_1
            have hw130_0 := hx130_0
            obtain rfl : ad123 = ad130 := (by injection e130)
            replace hx130_0 := (HB.out.cell (zL w _ hx130_0)).trans hx130_0
            replace hx130_1 := (HB.out.cell (zL w _ hx130_1)).trans hx130_1
            replace hx130_2 := (HB.out.cell (zL w _ hx130_2)).trans hx130_2
            replace p130 := eq_true p130
            replace q130 := eq_true q130
            refine start_ (n := 26) (S := fun w' => w'.cell? ⟨gb127, 0, none⟩ = some (.int .i64 t125) ∧ w'.cell? ⟨gb127, 1, none⟩ = some (.string t126) ∧ w'.cell? (ad123.add ((x3_1).toNat * 3)) = some (.string ((rd_T96 l0 x3_1).f0)) ∧ w'.cell? ⟨(ad123.add ((x3_1).toNat * 3)).block, (ad123.add ((x3_1).toNat * 3)).off + 1, none⟩ = some (.int .i64 ((rd_T96 l0 x3_1).f1)) ∧ w'.cell? ⟨(ad123.add ((x3_1).toNat * 3)).block, (ad123.add ((x3_1).toNat * 3)).off + 2, none⟩ = some (.string ((rd_T96 l0 x3_1).f2)) ∧ w'.cell? (ad123.add ((x3_1).toNat * 3)) = some (.string ((rd_T96 l0 x3_1).f0)) ∧ w'.cell? ⟨(ad123.add ((x3_1).toNat * 3)).block, (ad123.add ((x3_1).toNat * 3)).off + 1, none⟩ = some (.int .i64 ((rd_T96 l0 x3_1).f1)) ∧ w'.cell? ⟨(ad123.add ((x3_1).toNat * 3)).block, (ad123.add ((x3_1).toNat * 3)).off + 2, none⟩ = some (.string ((rd_T96 l0 x3_1).f2)) ∧ w'.cell? (ad123.add (((ji9)).toNat * 3)) = some (.string ((rd_T96 l0 (ji9)).f0)) ∧ w'.cell? ⟨(ad123.add (((ji9)).toNat * 3)).block, (ad123.add (((ji9)).toNat * 3)).off + 1, none⟩ = some (.int .i64 ((rd_T96 l0 (ji9)).f1)) ∧ w'.cell? ⟨(ad123.add (((ji9)).toNat * 3)).block, (ad123.add (((ji9)).toNat * 3)).off + 2, none⟩ = some (.string ((rd_T96 l0 (ji9)).f2))) (ds := []) #[zF,zF,zF,zF,zF,zF,zF,zF,zF,zF,zF,zF,zF,zF,zF,zF,zF,zF,zF,zF,zF,zF,zF,zF,zF,zF] (by kernel_rfl) rfl rfl ⟨(blk_cell BK127.out 0).trans rfl, (blk_cell BK127.out 1).trans rfl, ((HB.out.cell (zL w _ hw128_0)).trans hw128_0), ((HB.out.cell (zL w _ hw128_1)).trans hw128_1), ((HB.out.cell (zL w _ hw128_2)).trans hw128_2), ((HB.out.cell (zL w _ hw129_0)).trans hw129_0), ((HB.out.cell (zL w _ hw129_1)).trans hw129_1), ((HB.out.cell (zL w _ hw129_2)).trans hw129_2), ((HB.out.cell (zL w _ hw130_0)).trans hw130_0), ((HB.out.cell (zL w _ hw130_1)).trans hw130_1), ((HB.out.cell (zL w _ hw130_2)).trans hw130_2)⟩ (fun hHeld => ?_); refine with_tabW spec_StoreFault.tab9 spec_StoreFault.bits9 (fun HT_ HW_ => ?_)
            generalize w20.drew = w21 at BK127 HB hx128_0 hx128_1 hx128_2 hx129_0 hx129_1 hx129_2 hx130_0 hx130_1 hx130_2 hHeld ⊢
            refine pure_ (i := 0) (N := some 30) (v := ?_) (a' := ?_) #[zB,zF,zF,zF,zF,zF,zF,zF,zF,zF,zF,zF,zF,zF,zF,zF,zF,zF,zF,zF,zF,zF,zF,zF,zF,zF] rfl rfl (any_of HT_.out (by kernel_rfl)) (fun _ _ _ h => h) (Or.inl ⟨by rfl, ?_⟩) ?_ ?_
            rotate_left
            ·
             intro w'
             go_simp
             with_reducible rfl
            rotate_left
            ·
             simp only [Act.put, zS, zT, zU, i64_w, i32_w]
             rfl
            refine pure_ (i := 2) (N := some 32) (v := ?_) (a' := ?_) #[zB,zF,zB,zF,zF,zF,zF,zF,zF,zF,zF,zF,zF,zF,zF,zF,zF,zF,zF,zF,zF,zF,zF,zF,zF,zF] rfl rfl (any_of HT_.out (by kernel_rfl)) (fun _ _ _ h => h) (Or.inl ⟨by rfl, ?_⟩) ?_ ?_
            rotate_left
            ·
             intro w'
             go_simp
             with_reducible rfl
            rotate_left
            ·
             simp only [Act.put, zS, zT, zU, i64_w, i32_w]
             rfl
            refine pure_ (i := 3) (N := some 33) (v := ?_) (a' := ?_) #[zB,zF,zB,zB,zF,zF,zF,zF,zF,zF,zF,zF,zF,zF,zF,zF,zF,zF,zF,zF,zF,zF,zF,zF,zF,zF] rfl rfl (any_of HT_.out (by kernel_rfl)) (fun _ _ _ h => h) (Or.inl ⟨by rfl, ?_⟩) ?_ ?_
            rotate_left
            ·
             intro w'
             go_simp
             with_reducible rfl
            rotate_left
            ·
             simp only [Act.put, zS, zT, zU, i64_w, i32_w]
             rfl
            refine pure_ (i := 4) (N := some 34) (v := ?_) (a' := ?_) #[zB,zF,zB,zB,zB,zF,zF,zF,zF,zF,zF,zF,zF,zF,zF,zF,zF,zF,zF,zF,zF,zF,zF,zF,zF,zF] rfl rfl (any_of HT_.out (by kernel_rfl)) (fun _ _ _ h => h) (Or.inl ⟨by rfl, ?_⟩) ?_ ?_
            rotate_left
            ·
             intro w'
             go_simp
             with_reducible rfl
            rotate_left
            ·
             simp only [Act.put, zS, zT, zU, i64_w, i32_w]
             rfl
            refine pure_ (i := 5) (N := some 35) (v := ?_) (a' := ?_) #[zB,zF,zB,zB,zB,zB,zF,zF,zF,zF,zF,zF,zF,zF,zF,zF,zF,zF,zF,zF,zF,zF,zF,zF,zF,zF] rfl rfl (any_of HT_.out (by kernel_rfl)) (fun _ _ _ h => h) (Or.inl ⟨by rfl, ?_⟩) ?_ ?_
            rotate_left
            ·
             intro w'
             go_simp
             with_reducible rfl
            rotate_left
            ·
             simp only [Act.put, zS, zT, zU, i64_w, i32_w]
             rfl
            refine take_ (i := 1) (N := some 31) (v := ?_) (a' := ?_) #[zB,zB,zB,zB,zB,zB,zF,zF,zF,zF,zF,zF,zF,zF,zF,zF,zF,zF,zF,zF,zF,zF,zF,zF,zF,zF] rfl rfl (take_ofW HT_.out HW_.out (by kernel_rfl)) (fun _ _ _ h => h) (Or.inl ⟨by rfl, ?_⟩) hHeld ?_ ?_
            rotate_left
            ·
             rintro w' ⟨s0, s1, s2, s3, s4, s5, s6, s7, s8, s9, s10⟩
             go_simp
             with_reducible rfl
            rotate_left
            ·
             simp only [Act.put, zS, zT, zU, i64_w, i32_w]
             rfl
            refine take_ (i := 6) (N := some 36) (v := ?_) (a' := ?_) #[zB,zB,zB,zB,zB,zB,zB,zF,zF,zF,zF,zF,zF,zF,zF,zF,zF,zF,zF,zF,zF,zF,zF,zF,zF,zF] rfl rfl (take_ofW HT_.out HW_.out (by kernel_rfl)) (fun _ _ _ h => h) (Or.inl ⟨by rfl, ?_⟩) hHeld ?_ ?_
            rotate_left
            ·
             rintro w' ⟨s0, s1, s2, s3, s4, s5, s6, s7, s8, s9, s10⟩
             go_simp
             with_reducible rfl
            rotate_left
            ·
             simp only [Act.put, zS, zT, zU, i64_w, i32_w]
             rfl
            refine pure_ (i := 7) (N := some 37) (v := ?_) (a' := ?_) #[zB,zB,zB,zB,zB,zB,zB,zB,zF,zF,zF,zF,zF,zF,zF,zF,zF,zF,zF,zF,zF,zF,zF,zF,zF,zF] rfl rfl (any_of HT_.out (by kernel_rfl)) (fun _ _ _ h => h) (Or.inl ⟨by rfl, ?_⟩) ?_ ?_
            rotate_left
            ·
             intro w'
             go_simp
             with_reducible rfl
            rotate_left
            ·
             simp only [Act.put, zS, zT, zU, i64_w, i32_w]
             rfl
            refine pure_ (i := 8) (N := some 38) (v := ?_) (a' := ?_) #[zB,zB,zB,zB,zB,zB,zB,zB,zB,zF,zF,zF,zF,zF,zF,zF,zF,zF,zF,zF,zF,zF,zF,zF,zF,zF] rfl rfl (any_of HT_.out (by kernel_rfl)) (fun _ _ _ h => h) (Or.inl ⟨by rfl, ?_⟩) ?_ ?_
            rotate_left
            ·
             intro w'
             go_simp
             with_reducible rfl
            rotate_left
            ·
             simp only [Act.put, zS, zT, zU, i64_w, i32_w]
             rfl
            refine pure_ (i := 9) (N := some 39) (v := ?_) (a' := ?_) #[zB,zB,zB,zB,zB,zB,zB,zB,zB,zB,zF,zF,zF,zF,zF,zF,zF,zF,zF,zF,zF,zF,zF,zF,zF,zF] rfl rfl (any_of HT_.out (by kernel_rfl)) (fun _ _ _ h => h) (Or.inl ⟨by rfl, ?_⟩) ?_ ?_
            rotate_left
            ·
             intro w'
             go_simp
             with_reducible rfl
            rotate_left
            ·
             simp only [Act.put, zS, zT, zU, i64_w, i32_w]
             rfl
            refine pure_ (i := 10) (N := some 40) (v := ?_) (a' := ?_) #[zB,zB,zB,zB,zB,zB,zB,zB,zB,zB,zB,zF,zF,zF,zF,zF,zF,zF,zF,zF,zF,zF,zF,zF,zF,zF] rfl rfl (any_of HT_.out (by kernel_rfl)) (fun _ _ _ h => h) (Or.inl ⟨by rfl, ?_⟩) ?_ ?_
            rotate_left
            ·
             intro w'
             go_simp
             with_reducible rfl
            rotate_left
            ·
             simp only [Act.put, zS, zT, zU, i64_w, i32_w]
             rfl
            refine pure_ (i := 11) (N := some 41) (v := ?_) (a' := ?_) #[zB,zB,zB,zB,zB,zB,zB,zB,zB,zB,zB,zB,zF,zF,zF,zF,zF,zF,zF,zF,zF,zF,zF,zF,zF,zF] rfl rfl (any_of HT_.out (by kernel_rfl)) (fun _ _ _ h => h) (Or.inl ⟨by rfl, ?_⟩) ?_ ?_
            rotate_left
            ·
             intro w'
             go_simp
             with_reducible rfl
            rotate_left
            ·
             simp only [Act.put, zS, zT, zU, i64_w, i32_w]
             rfl
            refine pure_ (i := 12) (N := some 42) (v := ?_) (a' := ?_) #[zB,zB,zB,zB,zB,zB,zB,zB,zB,zB,zB,zB,zB,zF,zF,zF,zF,zF,zF,zF,zF,zF,zF,zF,zF,zF] rfl rfl (any_of HT_.out (by kernel_rfl)) (fun _ _ _ h => h) (Or.inl ⟨by rfl, ?_⟩) ?_ ?_
            rotate_left
            ·
             intro w'
             go_simp
             with_reducible rfl
            rotate_left
            ·
             simp only [Act.put, zS, zT, zU, i64_w, i32_w]
             rfl
            refine pure_ (i := 13) (N := some 43) (v := ?_) (a' := ?_) #[zB,zB,zB,zB,zB,zB,zB,zB,zB,zB,zB,zB,zB,zB,zF,zF,zF,zF,zF,zF,zF,zF,zF,zF,zF,zF] rfl rfl (any_of HT_.out (by kernel_rfl)) (fun _ _ _ h => h) (Or.inl ⟨by rfl, ?_⟩) ?_ ?_
            rotate_left
            ·
             intro w'
             go_simp
             with_reducible rfl
            rotate_left
            ·
             simp only [Act.put, zS, zT, zU, i64_w, i32_w]
             rfl
            refine pure_ (i := 14) (N := some 44) (v := ?_) (a' := ?_) #[zB,zB,zB,zB,zB,zB,zB,zB,zB,zB,zB,zB,zB,zB,zB,zF,zF,zF,zF,zF,zF,zF,zF,zF,zF,zF] rfl rfl (any_of HT_.out (by kernel_rfl)) (fun _ _ _ h => h) (Or.inl ⟨by rfl, ?_⟩) ?_ ?_
            rotate_left
            ·
             intro w'
             go_simp
             with_reducible rfl
            rotate_left
            ·
             simp only [Act.put, zS, zT, zU, i64_w, i32_w]
             rfl
            refine pure_ (i := 15) (N := some 45) (v := ?_) (a' := ?_) #[zB,zB,zB,zB,zB,zB,zB,zB,zB,zB,zB,zB,zB,zB,zB,zB,zF,zF,zF,zF,zF,zF,zF,zF,zF,zF] rfl rfl (any_of HT_.out (by kernel_rfl)) (fun _ _ _ h => h) (Or.inl ⟨by rfl, ?_⟩) ?_ ?_
            rotate_left
            ·
             intro w'
             go_simp
             with_reducible rfl
            rotate_left
            ·
             simp only [Act.put, zS, zT, zU, i64_w, i32_w]
             rfl
            refine pure_ (i := 17) (N := some 47) (v := ?_) (a' := ?_) #[zB,zB,zB,zB,zB,zB,zB,zB,zB,zB,zB,zB,zB,zB,zB,zB,zF,zB,zF,zF,zF,zF,zF,zF,zF,zF] rfl rfl (any_of HT_.out (by kernel_rfl)) (fun _ _ _ h => h) (Or.inl ⟨by rfl, ?_⟩) ?_ ?_
            rotate_left
            ·
             intro w'
             go_simp
             with_reducible rfl
            rotate_left
            ·
             simp only [Act.put, zS, zT, zU, i64_w, i32_w]
             rfl
            refine pure_ (i := 18) (N := some 48) (v := ?_) (a' := ?_) #[zB,zB,zB,zB,zB,zB,zB,zB,zB,zB,zB,zB,zB,zB,zB,zB,zF,zB,zB,zF,zF,zF,zF,zF,zF,zF] rfl rfl (any_of HT_.out (by kernel_rfl)) (fun _ _ _ h => h) (Or.inl ⟨by rfl, ?_⟩) ?_ ?_
            rotate_left
            ·
             intro w'
             go_simp
             with_reducible rfl
            rotate_left
            ·
             simp only [Act.put, zS, zT, zU, i64_w, i32_w]
             rfl
            refine pure_ (i := 19) (N := some 49) (v := ?_) (a' := ?_) #[zB,zB,zB,zB,zB,zB,zB,zB,zB,zB,zB,zB,zB,zB,zB,zB,zF,zB,zB,zB,zF,zF,zF,zF,zF,zF] rfl rfl (any_of HT_.out (by kernel_rfl)) (fun _ _ _ h => h) (Or.inl ⟨by rfl, ?_⟩) ?_ ?_
            rotate_left
            ·
             intro w'
             go_simp
             with_reducible rfl
            rotate_left
            ·
             simp only [Act.put, zS, zT, zU, i64_w, i32_w]
             rfl
            refine pure_ (i := 20) (N := some 50) (v := ?_) (a' := ?_) #[zB,zB,zB,zB,zB,zB,zB,zB,zB,zB,zB,zB,zB,zB,zB,zB,zF,zB,zB,zB,zB,zF,zF,zF,zF,zF] rfl rfl (any_of HT_.out (by kernel_rfl)) (fun _ _ _ h => h) (Or.inl ⟨by rfl, ?_⟩) ?_ ?_
            rotate_left
            ·
             intro w'
             go_simp
             with_reducible rfl
            rotate_left
            ·
             simp only [Act.put, zS, zT, zU, i64_w, i32_w]
             rfl
            refine pure_ (i := 21) (N := some 51) (v := ?_) (a' := ?_) #[zB,zB,zB,zB,zB,zB,zB,zB,zB,zB,zB,zB,zB,zB,zB,zB,zF,zB,zB,zB,zB,zB,zF,zF,zF,zF] rfl rfl (any_of HT_.out (by kernel_rfl)) (fun _ _ _ h => h) (Or.inl ⟨by rfl, ?_⟩) ?_ ?_
            rotate_left
            ·
             intro w'
             go_simp
             with_reducible rfl
            rotate_left
            ·
             simp only [Act.put, zS, zT, zU, i64_w, i32_w]
             rfl
            refine take_ (i := 16) (N := some 46) (v := ?_) (a' := ?_) #[zB,zB,zB,zB,zB,zB,zB,zB,zB,zB,zB,zB,zB,zB,zB,zB,zB,zB,zB,zB,zB,zB,zF,zF,zF,zF] rfl rfl (take_ofW HT_.out HW_.out (by kernel_rfl)) (fun _ _ _ h => h) (Or.inl ⟨by rfl, ?_⟩) hHeld ?_ ?_
            rotate_left
            ·
             rintro w' ⟨s0, s1, s2, s3, s4, s5, s6, s7, s8, s9, s10⟩
             go_simp
             with_reducible rfl
            rotate_left
            ·
             simp only [Act.put, zS, zT, zU, i64_w, i32_w]
             rfl
            refine take_ (i := 22) (N := some 52) (v := ?_) (a' := ?_) #[zB,zB,zB,zB,zB,zB,zB,zB,zB,zB,zB,zB,zB,zB,zB,zB,zB,zB,zB,zB,zB,zB,zB,zF,zF,zF] rfl rfl (take_ofW HT_.out HW_.out (by kernel_rfl)) (fun _ _ _ h => h) (Or.inl ⟨by rfl, ?_⟩) hHeld ?_ ?_
            rotate_left
            ·
             rintro w' ⟨s0, s1, s2, s3, s4, s5, s6, s7, s8, s9, s10⟩
             go_simp
             with_reducible rfl
            rotate_left
            ·
             simp only [Act.put, zS, zT, zU, i64_w, i32_w]
             rfl
            refine pure_ (i := 23) (N := some 53) (v := ?_) (a' := ?_) #[zB,zB,zB,zB,zB,zB,zB,zB,zB,zB,zB,zB,zB,zB,zB,zB,zB,zB,zB,zB,zB,zB,zB,zB,zF,zF] rfl rfl (any_of HT_.out (by kernel_rfl)) (fun _ _ _ h => h) (Or.inl ⟨by rfl, ?_⟩) ?_ ?_
            rotate_left
            ·
             intro w'
             go_simp
             with_reducible rfl
            rotate_left
            ·
             simp only [Act.put, zS, zT, zU, i64_w, i32_w]
             rfl
            refine pure_ (i := 24) (N := some 54) (v := ?_) (a' := ?_) #[zB,zB,zB,zB,zB,zB,zB,zB,zB,zB,zB,zB,zB,zB,zB,zB,zB,zB,zB,zB,zB,zB,zB,zB,zB,zF] rfl rfl (any_of HT_.out (by kernel_rfl)) (fun _ _ _ h => h) (Or.inl ⟨by rfl, ?_⟩) ?_ ?_
            rotate_left
            ·
             intro w'
             go_simp
             with_reducible rfl
            rotate_left
            ·
             simp only [Act.put, zS, zT, zU, i64_w, i32_w]
             rfl
            refine pure_ (i := 25) (N := some 55) (v := ?_) (a' := ?_) #[zB,zB,zB,zB,zB,zB,zB,zB,zB,zB,zB,zB,zB,zB,zB,zB,zB,zB,zB,zB,zB,zB,zB,zB,zB,zB] rfl rfl (any_of HT_.out (by kernel_rfl)) (fun _ _ _ h => h) (Or.inl ⟨by rfl, ?_⟩) ?_ ?_
            rotate_left
            ·
             intro w'
             go_simp
             with_reducible rfl
            rotate_left
            ·
             simp only [Act.put, zS, zT, zU, i64_w, i32_w]
             rfl
            refine done_ (done_of HT_.out (by kernel_rfl)) ?_
            try go_wp2
            go_roundg k1
            case measure => have := HK1.out; omega
            case rel => exact ⟨(wrap64 (x3_1 + 1)), (by first | rfl | (simp; done) | (simp [*]; done)), H', ⟨by have := HK1.out; omega⟩, ⟨by repeat (first | (with_reducible first | exact HB.out | apply zA | apply zN | apply zD | refine below_set ?_ GE127.out) | exact HB.out)⟩⟩
           ·
            rw [if_neg c12] at H
            have c12b0 : (Op.bytesLess (((rd_T96 l0 (ji9)).f0).toList) (((rd_T96 l0 x3_1).f0).toList)) = false := by simpa using c12
            clear c12
            obtain rfl := Option.some.inj H
            try go_wp2
            have n0_ := zK (zD HB.out)
            clear HB
            have HB := n0_
            clear n0_
            have p123 : 0 ≤ (x3_1 : Int) := zX (by first | (with_reducible assumption) | assumption)
            have q123 : x3_1 < (l0.length : Int) := zX (by first | (with_reducible assumption) | assumption)
            obtain ⟨ad123, e123, hx123_0, hx123_1, hx123_2⟩ := at_T96 HR0.out x3_1 p123 q123
            have hw123_2 := hx123_2
            have hw123_1 := hx123_1
            have hw123_0 := hx123_0
            cases e123
            replace hx123_0 := (HB.out.cell (zL w _ hx123_0)).trans hx123_0
            replace hx123_1 := (HB.out.cell (zL w _ hx123_1)).trans hx123_1
            replace hx123_2 := (HB.out.cell (zL w _ hx123_2)).trans hx123_2
            replace p123 := eq_true p123
            replace q123 := eq_true q123
            have p124 : 0 ≤ (x3_1 : Int) := zX (by first | (with_reducible assumption) | assumption)
            have q124 : x3_1 < (l0.length : Int) := zX (by first | (with_reducible assumption) | assumption)
            obtain ⟨ad124, e124, hx124_0, hx124_1, hx124_2⟩ := at_T96 HR0.out x3_1 p124 q124
            have hw124_2 := hx124_2
            have hw124_1 := hx124_1
            have hw124_0 := hx124_0
            obtain rfl : ad123 = ad124 := (by injection e124)
            replace hx124_0 := (HB.out.cell (zL w _ hx124_0)).trans hx124_0
            replace hx124_1 := (HB.out.cell (zL w _ hx124_1)).trans hx124_1
            replace hx124_2 := (HB.out.cell (zL w _ hx124_2)).trans hx124_2
            replace p124 := eq_true p124
            replace q124 := eq_true q124
            refine start_ (n := 13) (S := fun w' => w'.cell? (ad123.add ((x3_1).toNat * 3)) = some (.string ((rd_T96 l0 x3_1).f0)) ∧ w'.cell? ⟨(ad123.add ((x3_1).toNat * 3)).block, (ad123.add ((x3_1).toNat * 3)).off + 1, none⟩ = some (.int .i64 ((rd_T96 l0 x3_1).f1)) ∧ w'.cell? ⟨(ad123.add ((x3_1).toNat * 3)).block, (ad123.add ((x3_1).toNat * 3)).off + 2, none⟩ = some (.string ((rd_T96 l0 x3_1).f2)) ∧ w'.cell? (ad123.add ((x3_1).toNat * 3)) = some (.string ((rd_T96 l0 x3_1).f0)) ∧ w'.cell? ⟨(ad123.add ((x3_1).toNat * 3)).block, (ad123.add ((x3_1).toNat * 3)).off + 1, none⟩ = some (.int .i64 ((rd_T96 l0 x3_1).f1)) ∧ w'.cell? ⟨(ad123.add ((x3_1).toNat * 3)).block, (ad123.add ((x3_1).toNat * 3)).off + 2, none⟩ = some (.string ((rd_T96 l0 x3_1).f2))) (ds := []) #[zF,zF,zF,zF,zF,zF,zF,zF,zF,zF,zF,zF,zF] (by kernel_rfl) rfl rfl ⟨((HB.out.cell (zL w _ hw123_0)).trans hw123_0), ((HB.out.cell (zL w _ hw123_1)).trans hw123_1), ((HB.out.cell (zL w _ hw123_2)).trans hw123_2), ((HB.out.cell (zL w _ hw124_0)).trans hw124_0), ((HB.out.cell (zL w _ hw124_1)).trans hw124_1), ((HB.out.cell (zL w _ hw124_2)).trans hw124_2)⟩ (fun hHeld => ?_); refine with_tabW spec_StoreFault.tab6 spec_StoreFault.bits6 (fun HT_ HW_ => ?_)
            generalize wr.drew = w22 at HB hx123_0 hx123_1 hx123_2 hx124_0 hx124_1 hx124_2 hHeld ⊢
            refine pure_ (i := 0) (N := some 14) (v := ?_) (a' := ?_) #[zB,zF,zF,zF,zF,zF,zF,zF,zF,zF,zF,zF,zF] rfl rfl (any_of HT_.out (by kernel_rfl)) (fun _ _ _ h => h) (Or.inl ⟨by rfl, ?_⟩) ?_ ?_
            rotate_left
            ·
             intro w'
             go_simp
             with_reducible rfl
            rotate_left
            ·
             simp only [Act.put, zS, zT, zU, i64_w, i32_w]
             rfl
            refine pure_ (i := 1) (N := some 15) (v := ?_) (a' := ?_) #[zB,zB,zF,zF,zF,zF,zF,zF,zF,zF,zF,zF,zF] rfl rfl (any_of HT_.out (by kernel_rfl)) (fun _ _ _ h => h) (Or.inl ⟨by rfl, ?_⟩) ?_ ?_
            rotate_left
            ·
             intro w'
             go_simp
             with_reducible rfl
            rotate_left
            ·
             simp only [Act.put, zS, zT, zU, i64_w, i32_w]
             rfl
            refine pure_ (i := 2) (N := some 16) (v := ?_) (a' := ?_) #[zB,zB,zB,zF,zF,zF,zF,zF,zF,zF,zF,zF,zF] rfl rfl (any_of HT_.out (by kernel_rfl)) (fun _ _ _ h => h) (Or.inl ⟨by rfl, ?_⟩) ?_ ?_
            rotate_left
            ·
             intro w'
             go_simp
             with_reducible rfl
            rotate_left
            ·
             simp only [Act.put, zS, zT, zU, i64_w, i32_w]
             rfl
            refine pure_ (i := 3) (N := some 17) (v := ?_) (a' := ?_) #[zB,zB,zB,zB,zF,zF,zF,zF,zF,zF,zF,zF,zF] rfl rfl (any_of HT_.out (by kernel_rfl)) (fun _ _ _ h => h) (Or.inl ⟨by rfl, ?_⟩) ?_ ?_
            rotate_left
            ·
             intro w'
             go_simp
             with_reducible rfl
            rotate_left
            ·
             simp only [Act.put, zS, zT, zU, i64_w, i32_w]
             rfl
            refine pure_ (i := 5) (N := some 19) (v := ?_) (a' := ?_) #[zB,zB,zB,zB,zF,zB,zF,zF,zF,zF,zF,zF,zF] rfl rfl (any_of HT_.out (by kernel_rfl)) (fun _ _ _ h => h) (Or.inl ⟨by rfl, ?_⟩) ?_ ?_
            rotate_left
            ·
             intro w'
             go_simp
             with_reducible rfl
            rotate_left
            ·
             simp only [Act.put, zS, zT, zU, i64_w, i32_w]
             rfl
            refine pure_ (i := 6) (N := some 20) (v := ?_) (a' := ?_) #[zB,zB,zB,zB,zF,zB,zB,zF,zF,zF,zF,zF,zF] rfl rfl (any_of HT_.out (by kernel_rfl)) (fun _ _ _ h => h) (Or.inl ⟨by rfl, ?_⟩) ?_ ?_
            rotate_left
            ·
             intro w'
             go_simp
             with_reducible rfl
            rotate_left
            ·
             simp only [Act.put, zS, zT, zU, i64_w, i32_w]
             rfl
            refine pure_ (i := 7) (N := some 21) (v := ?_) (a' := ?_) #[zB,zB,zB,zB,zF,zB,zB,zB,zF,zF,zF,zF,zF] rfl rfl (any_of HT_.out (by kernel_rfl)) (fun _ _ _ h => h) (Or.inl ⟨by rfl, ?_⟩) ?_ ?_
            rotate_left
            ·
             intro w'
             go_simp
             with_reducible rfl
            rotate_left
            ·
             simp only [Act.put, zS, zT, zU, i64_w, i32_w]
             rfl
            refine pure_ (i := 8) (N := some 22) (v := ?_) (a' := ?_) #[zB,zB,zB,zB,zF,zB,zB,zB,zB,zF,zF,zF,zF] rfl rfl (any_of HT_.out (by kernel_rfl)) (fun _ _ _ h => h) (Or.inl ⟨by rfl, ?_⟩) ?_ ?_
            rotate_left
            ·
             intro w'
             go_simp
             with_reducible rfl
            rotate_left
            ·
             simp only [Act.put, zS, zT, zU, i64_w, i32_w]
             rfl
            refine take_ (i := 4) (N := some 18) (v := ?_) (a' := ?_) #[zB,zB,zB,zB,zB,zB,zB,zB,zB,zF,zF,zF,zF] rfl rfl (take_ofW HT_.out HW_.out (by kernel_rfl)) (fun _ _ _ h => h) (Or.inl ⟨by rfl, ?_⟩) hHeld ?_ ?_
            rotate_left
            ·
             rintro w' ⟨s0, s1, s2, s3, s4, s5⟩
             go_simp
             with_reducible rfl
            rotate_left
            ·
             simp only [Act.put, zS, zT, zU, i64_w, i32_w]
             rfl
            refine take_ (i := 9) (N := some 23) (v := ?_) (a' := ?_) #[zB,zB,zB,zB,zB,zB,zB,zB,zB,zB,zF,zF,zF] rfl rfl (take_ofW HT_.out HW_.out (by kernel_rfl)) (fun _ _ _ h => h) (Or.inl ⟨by rfl, ?_⟩) hHeld ?_ ?_
            rotate_left
            ·
             rintro w' ⟨s0, s1, s2, s3, s4, s5⟩
             go_simp
             with_reducible rfl
            rotate_left
            ·
             simp only [Act.put, zS, zT, zU, i64_w, i32_w]
             rfl
            refine join_ (σ := Nat) 1 #[zB,zB,zB,zB,zB,zB,zB,zB,zB,zB,zB,zB,zF] (fun s_ => [(24, .agg #[.int .i64 t125, .string t126]), (4, .pointer (some ⟨s_, 0, none⟩))]) (fun s_ w' => (w'.cell? (ad123.add ((x3_1).toNat * 3)) = some (.string ((rd_T96 l0 x3_1).f0)) ∧ w'.cell? ⟨(ad123.add ((x3_1).toNat * 3)).block, (ad123.add ((x3_1).toNat * 3)).off + 1, none⟩ = some (.int .i64 ((rd_T96 l0 x3_1).f1)) ∧ w'.cell? ⟨(ad123.add ((x3_1).toNat * 3)).block, (ad123.add ((x3_1).toNat * 3)).off + 2, none⟩ = some (.string ((rd_T96 l0 x3_1).f2)) ∧ w'.cell? (ad123.add ((x3_1).toNat * 3)) = some (.string ((rd_T96 l0 x3_1).f0)) ∧ w'.cell? ⟨(ad123.add ((x3_1).toNat * 3)).block, (ad123.add ((x3_1).toNat * 3)).off + 1, none⟩ = some (.int .i64 ((rd_T96 l0 x3_1).f1)) ∧ w'.cell? ⟨(ad123.add ((x3_1).toNat * 3)).block, (ad123.add ((x3_1).toNat * 3)).off + 2, none⟩ = some (.string ((rd_T96 l0 x3_1).f2))) ∧ (w'.heap[s_]? = some (.cells #[.int .i64 0, .string (⟨#[]⟩ : ByteArray)] 36 (0, 0))) ∧ (w.heap.size ≤ s_) ∧ (w.heap.size ≤ s_) ∧ (Below w.heap.size w w')) ?_ ?_
            rotate_left
            ·
             intro hCont
             refine two_ (i := 10) (j := 11) (Ni := some 24) (Nj := some 4) #[zB,zB,zB,zB,zB,zB,zB,zB,zB,zB,zB,zF,zF] #[zB,zB,zB,zB,zB,zB,zB,zB,zB,zB,zF,zB,zF] rfl rfl rfl rfl (two_of HT_.out (by kernel_rfl)) (by decide) (by decide) (fun K hK => ?_) (fun K hK => ?_)
             ·
              skip
              refine goes_ Tryd.func67 (by kernel_rfl) rfl #[.int .i64 ((rd_T96 l0 x3_1).f1), .string ((rd_T96 l0 x3_1).f2)] (by rfl) rfl rfl (by (try simp only [List.map_toArray, List.map_cons, List.map_nil]); first | done | rfl | (simp only [List.length_drop, List.length_take]; rfl)) ?_
              with_reducible refine (spec_IdOf.calls k1 ((rd_T96 l0 x3_1).f1) ((rd_T96 l0 x3_1).f2) t125 t126 _ A5.out).mono ?_
              rintro e w23 ⟨rfl, hb⟩
              refine ⟨_, rfl, ?_⟩
              have n0_ := zK (below_step (by repeat (first | (with_reducible first | exact HB.out | apply zA | apply zN | apply zD) | exact HB.out)) hb)
              clear HB
              have HB := n0_
              clear n0_
              (try clear hb)
              (try clear hb2)
              (try clear hk)
              (try clear hi)
              refine hK.out _ _ ⟨((HB.out.cell (zL w _ hw123_0)).trans hw123_0), ((HB.out.cell (zL w _ hw123_1)).trans hw123_1), ((HB.out.cell (zL w _ hw123_2)).trans hw123_2), ((HB.out.cell (zL w _ hw124_0)).trans hw124_0), ((HB.out.cell (zL w _ hw124_1)).trans hw124_1), ((HB.out.cell (zL w _ hw124_2)).trans hw124_2)⟩ (fun hHeld => ?_)
              clear hK K
              refine norm_ (a' := ?_) ?_ ?_
              rotate_left
              ·
               show Act.put _ (some 24) _ = _
               simp only [Act.put, zS, zT, zU, i64_w, i32_w]
               rfl
              refine one_ (i := 11) (N := some 4) #[zB,zB,zB,zB,zB,zB,zB,zB,zB,zB,zB,zB,zF] rfl rfl (one_of HT_.out (by kernel_rfl)) (by decide) (fun K hK => ?_)
              refine box_step ?hg (N := 4) ?hd (cs := #[.int .i64 0, .string (⟨#[]⟩ : ByteArray)]) (t := 36) ?hr ?_; (case hd => rfl); (case hg => rfl); (case hr => first | (go_simp; done) | (go_simp; rfl))
              intro gb127 hg w24 hbox hb
              have n0_ := zK (below_step (by repeat (first | (with_reducible first | exact HB.out | apply zA | apply zN | apply zD) | exact HB.out)) hb)
              have n1_ := zK (hbox)
              have n2_ := zK ((by rw [hg]; exact (below_size (by repeat (first | (with_reducible first | exact HB.out | apply zA | apply zN | apply zD) | exact HB.out))) : w.heap.size ≤ gb127))
              have n3_ := zK ((by rw [hg]; exact (below_size (by repeat (first | (with_reducible first | exact HB.out | apply zA | apply zN | apply zD) | exact HB.out))) : w.heap.size ≤ gb127))
              clear HB
              have HB := n0_
              have BK127 := n1_
              have GW127 := n2_
              have GE127 := n3_
              clear n0_ n1_ n2_ n3_
              clear hb hbox hg
              refine hK.out _ _ ⟨((HB.out.cell (zL w _ hw123_0)).trans hw123_0), ((HB.out.cell (zL w _ hw123_1)).trans hw123_1), ((HB.out.cell (zL w _ hw123_2)).trans hw123_2), ((HB.out.cell (zL w _ hw124_0)).trans hw124_0), ((HB.out.cell (zL w _ hw124_1)).trans hw124_1), ((HB.out.cell (zL w _ hw124_2)).trans hw124_2)⟩ (fun hHeld => ?_)
              clear hK K
              refine norm_ (a' := ?_) ?_ ?_
              rotate_left
              ·
               show Act.put _ (some 4) _ = _
               simp only [Act.put, zS, zT, zU, i64_w, i32_w]
               rfl
              exact norm_ (by simp only [putAll, Act.put, zS, zT, zU]) (hCont (gb127) _ ⟨hHeld, (by (with_reducible repeat (first | refine zM ?_ _ | refine zP ?_ | refine zQ ?_ _)); exact BK127.out), GW127.out, GE127.out, (by repeat (first | (with_reducible first | exact HB.out | apply zA | apply zN | apply zD | refine below_set ?_ GE127.out) | exact HB.out))⟩)
             ·
              skip
              refine box_step ?hg (N := 4) ?hd (cs := #[.int .i64 0, .string (⟨#[]⟩ : ByteArray)]) (t := 36) ?hr ?_; (case hd => rfl); (case hg => rfl); (case hr => first | (go_simp; done) | (go_simp; rfl))
              intro gb127 hg w23 hbox hb
              have n0_ := zK (below_step (by repeat (first | (with_reducible first | exact HB.out | apply zA | apply zN | apply zD) | exact HB.out)) hb)
              have n1_ := zK (hbox)
              have n2_ := zK ((by rw [hg]; exact (below_size (by repeat (first | (with_reducible first | exact HB.out | apply zA | apply zN | apply zD) | exact HB.out))) : w.heap.size ≤ gb127))
              have n3_ := zK ((by rw [hg]; exact (below_size (by repeat (first | (with_reducible first | exact HB.out | apply zA | apply zN | apply zD) | exact HB.out))) : w.heap.size ≤ gb127))
              clear HB
              have HB := n0_
              have BK127 := n1_
              have GW127 := n2_
              have GE127 := n3_
              clear n0_ n1_ n2_ n3_
              clear hb hbox hg
              refine hK.out _ _ ⟨((HB.out.cell (zL w _ hw123_0)).trans hw123_0), ((HB.out.cell (zL w _ hw123_1)).trans hw123_1), ((HB.out.cell (zL w _ hw123_2)).trans hw123_2), ((HB.out.cell (zL w _ hw124_0)).trans hw124_0), ((HB.out.cell (zL w _ hw124_1)).trans hw124_1), ((HB.out.cell (zL w _ hw124_2)).trans hw124_2)⟩ (fun hHeld => ?_)
              clear hK K
              refine norm_ (a' := ?_) ?_ ?_
              rotate_left
              ·
               show Act.put _ (some 4) _ = _
               simp only [Act.put, zS, zT, zU, i64_w, i32_w]
               rfl
              refine one_ (i := 10) (N := some 24) #[zB,zB,zB,zB,zB,zB,zB,zB,zB,zB,zB,zB,zF] rfl rfl (one_of HT_.out (by kernel_rfl)) (by decide) (fun K hK => ?_)
              refine goes_ Tryd.func67 (by kernel_rfl) rfl #[.int .i64 ((rd_T96 l0 x3_1).f1), .string ((rd_T96 l0 x3_1).f2)] (by rfl) rfl rfl (by (try simp only [List.map_toArray, List.map_cons, List.map_nil]); first | done | rfl | (simp only [List.length_drop, List.length_take]; rfl)) ?_
              with_reducible refine (spec_IdOf.calls k1 ((rd_T96 l0 x3_1).f1) ((rd_T96 l0 x3_1).f2) t125 t126 _ A5.out).mono ?_
              rintro e w24 ⟨rfl, hb⟩
              refine ⟨_, rfl, ?_⟩
              have n0_ := zK (blk_below (g := gb127) (o := .cells #[.int .i64 0, .string (⟨#[]⟩ : ByteArray)] 36 (0, 0)) (by (with_reducible repeat (first | refine zM ?_ _ | refine zP ?_ | refine zQ ?_ _)); exact BK127.out) hb)
              have n1_ := zK (below_step (by repeat (first | (with_reducible first | exact HB.out | apply zA | apply zN | apply zD | refine below_set ?_ GE127.out) | exact HB.out)) hb)
              clear BK127
              clear HB
              have BK127 := n0_
              have HB := n1_
              clear n0_ n1_
              (try clear hb)
              (try clear hb2)
              (try clear hk)
              (try clear hi)
              refine hK.out _ _ ⟨((HB.out.cell (zL w _ hw123_0)).trans hw123_0), ((HB.out.cell (zL w _ hw123_1)).trans hw123_1), ((HB.out.cell (zL w _ hw123_2)).trans hw123_2), ((HB.out.cell (zL w _ hw124_0)).trans hw124_0), ((HB.out.cell (zL w _ hw124_1)).trans hw124_1), ((HB.out.cell (zL w _ hw124_2)).trans hw124_2)⟩ (fun hHeld => ?_)
              clear hK K
              refine norm_ (a' := ?_) ?_ ?_
              rotate_left
              ·
               show Act.put _ (some 24) _ = _
               simp only [Act.put, zS, zT, zU, i64_w, i32_w]
               rfl
              exact norm_ (by simp only [putAll, Act.put, zS, zT, zU]) (hCont (gb127) _ ⟨hHeld, (by (with_reducible repeat (first | refine zM ?_ _ | refine zP ?_ | refine zQ ?_ _)); exact BK127.out), GW127.out, GE127.out, (by repeat (first | (with_reducible first | exact HB.out | apply zA | apply zN | apply zD | refine below_set ?_ GE127.out) | exact HB.out))⟩)
            rintro gb127 w25 ⟨hS_, h0_, h1_, h2_, h3_⟩
            have n0_ : Aside0 (w25.heap[gb127]? = some (.cells #[.int .i64 0, .string (⟨#[]⟩ : ByteArray)] 36 (0, 0))) := ⟨h0_⟩
            have n1_ : Aside0 (w.heap.size ≤ gb127) := ⟨h1_⟩
            have n2_ : Aside0 (w.heap.size ≤ gb127) := ⟨h2_⟩
            have n3_ : Aside0 (Below w.heap.size w w25) := ⟨h3_⟩
            clear HB
            clear h0_ h1_ h2_ h3_
            have BK127 := n0_
            have GW127 := n1_
            have GE127 := n2_
            have HB := n3_
            clear n0_ n1_ n2_ n3_
            have hHeld : w25.cell? (ad123.add ((x3_1).toNat * 3)) = some (.string ((rd_T96 l0 x3_1).f0)) ∧ w25.cell? ⟨(ad123.add ((x3_1).toNat * 3)).block, (ad123.add ((x3_1).toNat * 3)).off + 1, none⟩ = some (.int .i64 ((rd_T96 l0 x3_1).f1)) ∧ w25.cell? ⟨(ad123.add ((x3_1).toNat * 3)).block, (ad123.add ((x3_1).toNat * 3)).off + 2, none⟩ = some (.string ((rd_T96 l0 x3_1).f2)) ∧ w25.cell? (ad123.add ((x3_1).toNat * 3)) = some (.string ((rd_T96 l0 x3_1).f0)) ∧ w25.cell? ⟨(ad123.add ((x3_1).toNat * 3)).block, (ad123.add ((x3_1).toNat * 3)).off + 1, none⟩ = some (.int .i64 ((rd_T96 l0 x3_1).f1)) ∧ w25.cell? ⟨(ad123.add ((x3_1).toNat * 3)).block, (ad123.add ((x3_1).toNat * 3)).off + 2, none⟩ = some (.string ((rd_T96 l0 x3_1).f2)) := hS_
            refine norm_ (a' := ?_) ?_ ?_
            rotate_left
            ·
             simp only [putAll, Act.put, zS, zT, zU]
             rfl
            refine one_ (i := 12) (N := none) #[zB,zB,zB,zB,zB,zB,zB,zB,zB,zB,zB,zB,zB] rfl rfl (one_of HT_.out (by kernel_rfl)) (by decide) (fun K hK => ?_)
            have hs26 : w25.cell? ⟨gb127, 0, none⟩ = some (.int .i64 0) := (blk_cell BK127.out 0).trans rfl
            have hfs26 := blk_frozen BK127.out 0
            have hs27 : w25.cell? ⟨gb127, 1, none⟩ = some (.string (⟨#[]⟩ : ByteArray)) := (blk_cell BK127.out 1).trans rfl
            have hfs27 := blk_frozen BK127.out 1
            refine skip_ (w1 := ?_) (by rfl) rfl ?_ ?_
            rotate_left
            ·
             go_simp
             rfl
            refine hK.out _ _ ⟨((cell_far (p := ⟨gb127, _, none⟩) (by first | exact Nat.ne_of_lt (Nat.lt_of_lt_of_le (by have := zL _ _ hw123_0; first | rwa [add_block] at this | exact this) GW127.out) | (rw [add_block]; exact Nat.ne_of_lt (Nat.lt_of_lt_of_le (by have := zL _ _ hw123_0; first | rwa [add_block] at this | exact this) GW127.out)) | (show (Addr.add _ _).block ≠ _; rw [add_block]; exact Nat.ne_of_lt (Nat.lt_of_lt_of_le (by have := zL _ _ hw123_0; first | rwa [add_block] at this | exact this) GW127.out)) | (dsimp only; exact Nat.ne_of_lt (Nat.lt_of_lt_of_le (by have := zL _ _ hw123_0; first | rwa [add_block] at this | exact this) GW127.out))) _).trans (((cell_far (p := ⟨gb127, _, none⟩) (by first | exact Nat.ne_of_lt (Nat.lt_of_lt_of_le (by have := zL _ _ hw123_0; first | rwa [add_block] at this | exact this) GW127.out) | (rw [add_block]; exact Nat.ne_of_lt (Nat.lt_of_lt_of_le (by have := zL _ _ hw123_0; first | rwa [add_block] at this | exact this) GW127.out)) | (show (Addr.add _ _).block ≠ _; rw [add_block]; exact Nat.ne_of_lt (Nat.lt_of_lt_of_le (by have := zL _ _ hw123_0; first | rwa [add_block] at this | exact this) GW127.out)) | (dsimp only; exact Nat.ne_of_lt (Nat.lt_of_lt_of_le (by have := zL _ _ hw123_0; first | rwa [add_block] at this | exact this) GW127.out))) _).trans (hHeld.1)))), ((cell_far (p := ⟨gb127, _, none⟩) (by first | exact Nat.ne_of_lt (Nat.lt_of_lt_of_le (by have := zL _ _ hw123_1; first | rwa [add_block] at this | exact this) GW127.out) | (rw [add_block]; exact Nat.ne_of_lt (Nat.lt_of_lt_of_le (by have := zL _ _ hw123_1; first | rwa [add_block] at this | exact this) GW127.out)) | (show (Addr.add _ _).block ≠ _; rw [add_block]; exact Nat.ne_of_lt (Nat.lt_of_lt_of_le (by have := zL _ _ hw123_1; first | rwa [add_block] at this | exact this) GW127.out)) | (dsimp only; exact Nat.ne_of_lt (Nat.lt_of_lt_of_le (by have := zL _ _ hw123_1; first | rwa [add_block] at this | exact this) GW127.out))) _).trans (((cell_far (p := ⟨gb127, _, none⟩) (by first | exact Nat.ne_of_lt (Nat.lt_of_lt_of_le (by have := zL _ _ hw123_1; first | rwa [add_block] at this | exact this) GW127.out) | (rw [add_block]; exact Nat.ne_of_lt (Nat.lt_of_lt_of_le (by have := zL _ _ hw123_1; first | rwa [add_block] at this | exact this) GW127.out)) | (show (Addr.add _ _).block ≠ _; rw [add_block]; exact Nat.ne_of_lt (Nat.lt_of_lt_of_le (by have := zL _ _ hw123_1; first | rwa [add_block] at this | exact this) GW127.out)) | (dsimp only; exact Nat.ne_of_lt (Nat.lt_of_lt_of_le (by have := zL _ _ hw123_1; first | rwa [add_block] at this | exact this) GW127.out))) _).trans (hHeld.2.1)))), ((cell_far (p := ⟨gb127, _, none⟩) (by first | exact Nat.ne_of_lt (Nat.lt_of_lt_of_le (by have := zL _ _ hw123_2; first | rwa [add_block] at this | exact this) GW127.out) | (rw [add_block]; exact Nat.ne_of_lt (Nat.lt_of_lt_of_le (by have := zL _ _ hw123_2; first | rwa [add_block] at this | exact this) GW127.out)) | (show (Addr.add _ _).block ≠ _; rw [add_block]; exact Nat.ne_of_lt (Nat.lt_of_lt_of_le (by have := zL _ _ hw123_2; first | rwa [add_block] at this | exact this) GW127.out)) | (dsimp only; exact Nat.ne_of_lt (Nat.lt_of_lt_of_le (by have := zL _ _ hw123_2; first | rwa [add_block] at this | exact this) GW127.out))) _).trans (((cell_far (p := ⟨gb127, _, none⟩) (by first | exact Nat.ne_of_lt (Nat.lt_of_lt_of_le (by have := zL _ _ hw123_2; first | rwa [add_block] at this | exact this) GW127.out) | (rw [add_block]; exact Nat.ne_of_lt (Nat.lt_of_lt_of_le (by have := zL _ _ hw123_2; first | rwa [add_block] at this | exact this) GW127.out)) | (show (Addr.add _ _).block ≠ _; rw [add_block]; exact Nat.ne_of_lt (Nat.lt_of_lt_of_le (by have := zL _ _ hw123_2; first | rwa [add_block] at this | exact this) GW127.out)) | (dsimp only; exact Nat.ne_of_lt (Nat.lt_of_lt_of_le (by have := zL _ _ hw123_2; first | rwa [add_block] at this | exact this) GW127.out))) _).trans (hHeld.2.2.1)))), ((cell_far (p := ⟨gb127, _, none⟩) (by first | exact Nat.ne_of_lt (Nat.lt_of_lt_of_le (by have := zL _ _ hw124_0; first | rwa [add_block] at this | exact this) GW127.out) | (rw [add_block]; exact Nat.ne_of_lt (Nat.lt_of_lt_of_le (by have := zL _ _ hw124_0; first | rwa [add_block] at this | exact this) GW127.out)) | (show (Addr.add _ _).block ≠ _; rw [add_block]; exact Nat.ne_of_lt (Nat.lt_of_lt_of_le (by have := zL _ _ hw124_0; first | rwa [add_block] at this | exact this) GW127.out)) | (dsimp only; exact Nat.ne_of_lt (Nat.lt_of_lt_of_le (by have := zL _ _ hw124_0; first | rwa [add_block] at this | exact this) GW127.out))) _).trans (((cell_far (p := ⟨gb127, _, none⟩) (by first | exact Nat.ne_of_lt (Nat.lt_of_lt_of_le (by have := zL _ _ hw124_0; first | rwa [add_block] at this | exact this) GW127.out) | (rw [add_block]; exact Nat.ne_of_lt (Nat.lt_of_lt_of_le (by have := zL _ _ hw124_0; first | rwa [add_block] at this | exact this) GW127.out)) | (show (Addr.add _ _).block ≠ _; rw [add_block]; exact Nat.ne_of_lt (Nat.lt_of_lt_of_le (by have := zL _ _ hw124_0; first | rwa [add_block] at this | exact this) GW127.out)) | (dsimp only; exact Nat.ne_of_lt (Nat.lt_of_lt_of_le (by have := zL _ _ hw124_0; first | rwa [add_block] at this | exact this) GW127.out))) _).trans (hHeld.2.2.2.1)))), ((cell_far (p := ⟨gb127, _, none⟩) (by first | exact Nat.ne_of_lt (Nat.lt_of_lt_of_le (by have := zL _ _ hw124_1; first | rwa [add_block] at this | exact this) GW127.out) | (rw [add_block]; exact Nat.ne_of_lt (Nat.lt_of_lt_of_le (by have := zL _ _ hw124_1; first | rwa [add_block] at this | exact this) GW127.out)) | (show (Addr.add _ _).block ≠ _; rw [add_block]; exact Nat.ne_of_lt (Nat.lt_of_lt_of_le (by have := zL _ _ hw124_1; first | rwa [add_block] at this | exact this) GW127.out)) | (dsimp only; exact Nat.ne_of_lt (Nat.lt_of_lt_of_le (by have := zL _ _ hw124_1; first | rwa [add_block] at this | exact this) GW127.out))) _).trans (((cell_far (p := ⟨gb127, _, none⟩) (by first | exact Nat.ne_of_lt (Nat.lt_of_lt_of_le (by have := zL _ _ hw124_1; first | rwa [add_block] at this | exact this) GW127.out) | (rw [add_block]; exact Nat.ne_of_lt (Nat.lt_of_lt_of_le (by have := zL _ _ hw124_1; first | rwa [add_block] at this | exact this) GW127.out)) | (show (Addr.add _ _).block ≠ _; rw [add_block]; exact Nat.ne_of_lt (Nat.lt_of_lt_of_le (by have := zL _ _ hw124_1; first | rwa [add_block] at this | exact this) GW127.out)) | (dsimp only; exact Nat.ne_of_lt (Nat.lt_of_lt_of_le (by have := zL _ _ hw124_1; first | rwa [add_block] at this | exact this) GW127.out))) _).trans (hHeld.2.2.2.2.1)))), ((cell_far (p := ⟨gb127, _, none⟩) (by first | exact Nat.ne_of_lt (Nat.lt_of_lt_of_le (by have := zL _ _ hw124_2; first | rwa [add_block] at this | exact this) GW127.out) | (rw [add_block]; exact Nat.ne_of_lt (Nat.lt_of_lt_of_le (by have := zL _ _ hw124_2; first | rwa [add_block] at this | exact this) GW127.out)) | (show (Addr.add _ _).block ≠ _; rw [add_block]; exact Nat.ne_of_lt (Nat.lt_of_lt_of_le (by have := zL _ _ hw124_2; first | rwa [add_block] at this | exact this) GW127.out)) | (dsimp only; exact Nat.ne_of_lt (Nat.lt_of_lt_of_le (by have := zL _ _ hw124_2; first | rwa [add_block] at this | exact this) GW127.out))) _).trans (((cell_far (p := ⟨gb127, _, none⟩) (by first | exact Nat.ne_of_lt (Nat.lt_of_lt_of_le (by have := zL _ _ hw124_2; first | rwa [add_block] at this | exact this) GW127.out) | (rw [add_block]; exact Nat.ne_of_lt (Nat.lt_of_lt_of_le (by have := zL _ _ hw124_2; first | rwa [add_block] at this | exact this) GW127.out)) | (show (Addr.add _ _).block ≠ _; rw [add_block]; exact Nat.ne_of_lt (Nat.lt_of_lt_of_le (by have := zL _ _ hw124_2; first | rwa [add_block] at this | exact this) GW127.out)) | (dsimp only; exact Nat.ne_of_lt (Nat.lt_of_lt_of_le (by have := zL _ _ hw124_2; first | rwa [add_block] at this | exact this) GW127.out))) _).trans (hHeld.2.2.2.2.2))))⟩ (fun hHeld => ?_)
            clear hK K
            refine done_ (done_of HT_.out (by kernel_rfl)) ?_
            have hcz28_0 : w25.cell? ⟨gb127, 0, none⟩ = some (.int .i64 0) := (blk_cell BK127.out 0).trans rfl
            have hcz28_1 : w25.cell? ⟨gb127, 1, none⟩ = some (.string (⟨#[]⟩ : ByteArray)) := (blk_cell BK127.out 1).trans rfl
            have hfz28_0 := blk_frozen BK127.out 0
            have hfz28_1 := blk_frozen BK127.out 1
            try go_wp2
            have n0_ : Aside0 (((w25.setCell ⟨gb127, 0, none⟩ (.int .i64 t125)).setCell ⟨gb127, 1, none⟩ (.string t126)).heap[gb127]? = some (.cells #[.int .i64 t125, .string t126] 36 (0, 0))) := ⟨by (with_reducible repeat (first | refine zM ?_ _ | refine zP ?_ | refine zQ ?_ _)); refine blk_put (cs := #[.int .i64 t125, .string (⟨#[]⟩ : ByteArray)]) ?_ 1 _ rfl; (with_reducible repeat (first | refine zM ?_ _ | refine zP ?_ | refine zQ ?_ _)); refine blk_put (cs := #[.int .i64 0, .string (⟨#[]⟩ : ByteArray)]) ?_ 0 _ rfl; (with_reducible repeat (first | refine zM ?_ _ | refine zP ?_ | refine zQ ?_ _)); exact BK127.out⟩
            have n1_ : Aside0 (Below w.heap.size w ((w25.setCell ⟨gb127, 0, none⟩ (.int .i64 t125)).setCell ⟨gb127, 1, none⟩ (.string t126))) := ⟨by repeat (first | (with_reducible first | exact HB.out | apply zA | apply zN | apply zD | refine below_set ?_ GE127.out) | exact HB.out)⟩
            (try clear BK127)
            (try clear HB)
            generalize ((w25.setCell ⟨gb127, 0, none⟩ (.int .i64 t125)).setCell ⟨gb127, 1, none⟩ (.string t126)) = w29 at n0_ n1_ ⊢
            have BK127 := n0_
            have HB := n1_
            clear n0_ n1_
            have n0_ := zK (zP BK127.out)
            have n1_ := zK (zD HB.out)
            clear BK127
            clear HB
            have BK127 := n0_
            have HB := n1_
            clear n0_ n1_
            have p128 : 0 ≤ (x3_1 : Int) := zX (by first | (with_reducible assumption) | assumption)
            have q128 : x3_1 < (l0.length : Int) := zX (by first | (with_reducible assumption) | assumption)
            obtain ⟨ad128, e128, hx128_0, hx128_1, hx128_2⟩ := at_T96 HR0.out x3_1 p128 q128
            have hw128_2 := hx128_2
            have hw128_1 := hx128_1
            have hw128_0 := hx128_0
            obtain rfl : ad123 = ad128 := (by injection e128)
            replace hx128_0 := (HB.out.cell (zL w _ hx128_0)).trans hx128_0
            replace hx128_1 := (HB.out.cell (zL w _ hx128_1)).trans hx128_1
            replace hx128_2 := (HB.out.cell (zL w _ hx128_2)).trans hx128_2
            replace p128 := eq_true p128
            replace q128 := eq_true q128
            have p129 : 0 ≤ (x3_1 : Int) := zX (by first | (with_reducible assumption) | assumption)
            have q129 : x3_1 < (l0.length : Int) := zX (by first | (with_reducible assumption) | assumption)
            obtain ⟨ad129, e129, hx129_0, hx129_1, hx129_2⟩ := at_T96 HR0.out x3_1 p129 q129
            have hw129_2 := hx129_2
            have hw129_1 := hx129_1
            have hw129_0 := hx129_0
            obtain rfl : ad123 = ad129 := (by injection e129)
            replace hx129_0 := (HB.out.cell (zL w _ hx129_0)).trans hx129_0
            replace hx129_1 := (HB.out.cell (zL w _ hx129_1)).trans hx129_1
            replace hx129_2 := (HB.out.cell (zL w _ hx129_2)).trans hx129_2
            replace p129 := eq_true p129
            replace q129 := eq_true q129
            have p130 : 0 ≤ ((ji9) : Int) := zX (by first | (with_reducible assumption) | assumption)
            have q130 : (ji9) < (l0.length : Int) := zX (by first | (with_reducible assumption) | assumption)
            obtain ⟨ad130, e130, hx130_0, hx130_1, hx130_2⟩ := at_T96 HR0.out (ji9) p130 q130
            have hw130_2 := hx130_2
            have hw130_1 := hx130_1
            have hw130_0 := hx130_0
            obtain rfl : ad123 = ad130 := (by injection e130)
            replace hx130_0 := (HB.out.cell (zL w _ hx130_0)).trans hx130_0
            replace hx130_1 := (HB.out.cell (zL w _ hx130_1)).trans hx130_1
            replace hx130_2 := (HB.out.cell (zL w _ hx130_2)).trans hx130_2
            replace p130 := eq_true p130
            replace q130 := eq_true q130
            refine start_ (n := 26) (S := fun w' => w'.cell? ⟨gb127, 0, none⟩ = some (.int .i64 t125) ∧ w'.cell? ⟨gb127, 1, none⟩ = some (.string t126) ∧ w'.cell? (ad123.add ((x3_1).toNat * 3)) = some (.string ((rd_T96 l0 x3_1).f0)) ∧ w'.cell? ⟨(ad123.add ((x3_1).toNat * 3)).block, (ad123.add ((x3_1).toNat * 3)).off + 1, none⟩ = some (.int .i64 ((rd_T96 l0 x3_1).f1)) ∧ w'.cell? ⟨(ad123.add ((x3_1).toNat * 3)).block, (ad123.add ((x3_1).toNat * 3)).off + 2, none⟩ = some (.string ((rd_T96 l0 x3_1).f2)) ∧ w'.cell? (ad123.add ((x3_1).toNat * 3)) = some (.string ((rd_T96 l0 x3_1).f0)) ∧ w'.cell? ⟨(ad123.add ((x3_1).toNat * 3)).block, (ad123.add ((x3_1).toNat * 3)).off + 1, none⟩ = some (.int .i64 ((rd_T96 l0 x3_1).f1)) ∧ w'.cell? ⟨(ad123.add ((x3_1).toNat * 3)).block, (ad123.add ((x3_1).toNat * 3)).off + 2, none⟩ = some (.string ((rd_T96 l0 x3_1).f2)) ∧ w'.cell? (ad123.add (((ji9)).toNat * 3)) = some (.string ((rd_T96 l0 (ji9)).f0)) ∧ w'.cell? ⟨(ad123.add (((ji9)).toNat * 3)).block, (ad123.add (((ji9)).toNat * 3)).off + 1, none⟩ = some (.int .i64 ((rd_T96 l0 (ji9)).f1)) ∧ w'.cell? ⟨(ad123.add (((ji9)).toNat * 3)).block, (ad123.add (((ji9)).toNat * 3)).off + 2, none⟩ = some (.string ((rd_T96 l0 (ji9)).f2))) (ds := []) #[zF,zF,zF,zF,zF,zF,zF,zF,zF,zF,zF,zF,zF,zF,zF,zF,zF,zF,zF,zF,zF,zF,zF,zF,zF,zF] (by kernel_rfl) rfl rfl ⟨(blk_cell BK127.out 0).trans rfl, (blk_cell BK127.out 1).trans rfl, ((HB.out.cell (zL w _ hw128_0)).trans hw128_0), ((HB.out.cell (zL w _ hw128_1)).trans hw128_1), ((HB.out.cell (zL w _ hw128_2)).trans hw128_2), ((HB.out.cell (zL w _ hw129_0)).trans hw129_0), ((HB.out.cell (zL w _ hw129_1)).trans hw129_1), ((HB.out.cell (zL w _ hw129_2)).trans hw129_2), ((HB.out.cell (zL w _ hw130_0)).trans hw130_0), ((HB.out.cell (zL w _ hw130_1)).trans hw130_1), ((HB.out.cell (zL w _ hw130_2)).trans hw130_2)⟩ (fun hHeld => ?_); refine with_tabW spec_StoreFault.tab9 spec_StoreFault.bits9 (fun HT_ HW_ => ?_)
            generalize w29.drew = w30 at BK127 HB hx128_0 hx128_1 hx128_2 hx129_0 hx129_1 hx129_2 hx130_0 hx130_1 hx130_2 hHeld ⊢
            refine pure_ (i := 0) (N := some 30) (v := ?_) (a' := ?_) #[zB,zF,zF,zF,zF,zF,zF,zF,zF,zF,zF,zF,zF,zF,zF,zF,zF,zF,zF,zF,zF,zF,zF,zF,zF,zF] rfl rfl (any_of HT_.out (by kernel_rfl)) (fun _ _ _ h => h) (Or.inl ⟨by rfl, ?_⟩) ?_ ?_
            rotate_left
            ·
             intro w'
             go_simp
             with_reducible rfl
            rotate_left
            ·
             simp only [Act.put, zS, zT, zU, i64_w, i32_w]
             rfl
            refine pure_ (i := 2) (N := some 32) (v := ?_) (a' := ?_) #[zB,zF,zB,zF,zF,zF,zF,zF,zF,zF,zF,zF,zF,zF,zF,zF,zF,zF,zF,zF,zF,zF,zF,zF,zF,zF] rfl rfl (any_of HT_.out (by kernel_rfl)) (fun _ _ _ h => h) (Or.inl ⟨by rfl, ?_⟩) ?_ ?_
            rotate_left
            ·
             intro w'
             go_simp
             with_reducible rfl
            rotate_left
            ·
             simp only [Act.put, zS, zT, zU, i64_w, i32_w]
             rfl
            refine pure_ (i := 3) (N := some 33) (v := ?_) (a' := ?_) #[zB,zF,zB,zB,zF,zF,zF,zF,zF,zF,zF,zF,zF,zF,zF,zF,zF,zF,zF,zF,zF,zF,zF,zF,zF,zF] rfl rfl (any_of HT_.out (by kernel_rfl)) (fun _ _ _ h => h) (Or.inl ⟨by rfl, ?_⟩) ?_ ?_
            rotate_left
            ·
             intro w'
             go_simp
             with_reducible rfl
            rotate_left
            ·
             simp only [Act.put, zS, zT, zU, i64_w, i32_w]
             rfl
            refine pure_ (i := 4) (N := some 34) (v := ?_) (a' := ?_) #[zB,zF,zB,zB,zB,zF,zF,zF,zF,zF,zF,zF,zF,zF,zF,zF,zF,zF,zF,zF,zF,zF,zF,zF,zF,zF] rfl rfl (any_of HT_.out (by kernel_rfl)) (fun _ _ _ h => h) (Or.inl ⟨by rfl, ?_⟩) ?_ ?_
            rotate_left
            ·
             intro w'
             go_simp
             with_reducible rfl
            rotate_left
            ·
             simp only [Act.put, zS, zT, zU, i64_w, i32_w]
             rfl
            refine pure_ (i := 5) (N := some 35) (v := ?_) (a' := ?_) #[zB,zF,zB,zB,zB,zB,zF,zF,zF,zF,zF,zF,zF,zF,zF,zF,zF,zF,zF,zF,zF,zF,zF,zF,zF,zF] rfl rfl (any_of HT_.out (by kernel_rfl)) (fun _ _ _ h => h) (Or.inl ⟨by rfl, ?_⟩) ?_ ?_
            rotate_left
            ·
             intro w'
             go_simp
             with_reducible rfl
            rotate_left
            ·
             simp only [Act.put, zS, zT, zU, i64_w, i32_w]
             rfl
            refine take_ (i := 1) (N := some 31) (v := ?_) (a' := ?_) #[zB,zB,zB,zB,zB,zB,zF,zF,zF,zF,zF,zF,zF,zF,zF,zF,zF,zF,zF,zF,zF,zF,zF,zF,zF,zF] rfl rfl (take_ofW HT_.out HW_.out (by kernel_rfl)) (fun _ _ _ h => h) (Or.inl ⟨by rfl, ?_⟩) hHeld ?_ ?_
            rotate_left
            ·
             rintro w' ⟨s0, s1, s2, s3, s4, s5, s6, s7, s8, s9, s10⟩
             go_simp
             with_reducible rfl
            rotate_left
            ·
             simp only [Act.put, zS, zT, zU, i64_w, i32_w]
             rfl
            refine take_ (i := 6) (N := some 36) (v := ?_) (a' := ?_) #[zB,zB,zB,zB,zB,zB,zB,zF,zF,zF,zF,zF,zF,zF,zF,zF,zF,zF,zF,zF,zF,zF,zF,zF,zF,zF] rfl rfl (take_ofW HT_.out HW_.out (by kernel_rfl)) (fun _ _ _ h => h) (Or.inl ⟨by rfl, ?_⟩) hHeld ?_ ?_
            rotate_left
            ·
             rintro w' ⟨s0, s1, s2, s3, s4, s5, s6, s7, s8, s9, s10⟩
             go_simp
             with_reducible rfl
            rotate_left
            ·
             simp only [Act.put, zS, zT, zU, i64_w, i32_w]
             rfl
            refine pure_ (i := 7) (N := some 37) (v := ?_) (a' := ?_) #[zB,zB,zB,zB,zB,zB,zB,zB,zF,zF,zF,zF,zF,zF,zF,zF,zF,zF,zF,zF,zF,zF,zF,zF,zF,zF] rfl rfl (any_of HT_.out (by kernel_rfl)) (fun _ _ _ h => h) (Or.inl ⟨by rfl, ?_⟩) ?_ ?_
            rotate_left
            ·
             intro w'
             go_simp
             with_reducible rfl
            rotate_left
            ·
             simp only [Act.put, zS, zT, zU, i64_w, i32_w]
             rfl
            refine pure_ (i := 8) (N := some 38) (v := ?_) (a' := ?_) #[zB,zB,zB,zB,zB,zB,zB,zB,zB,zF,zF,zF,zF,zF,zF,zF,zF,zF,zF,zF,zF,zF,zF,zF,zF,zF] rfl rfl (any_of HT_.out (by kernel_rfl)) (fun _ _ _ h => h) (Or.inl ⟨by rfl, ?_⟩) ?_ ?_
            rotate_left
            ·
             intro w'
             go_simp
             with_reducible rfl
            rotate_left
            ·
             simp only [Act.put, zS, zT, zU, i64_w, i32_w]
             rfl
            refine pure_ (i := 9) (N := some 39) (v := ?_) (a' := ?_) #[zB,zB,zB,zB,zB,zB,zB,zB,zB,zB,zF,zF,zF,zF,zF,zF,zF,zF,zF,zF,zF,zF,zF,zF,zF,zF] rfl rfl (any_of HT_.out (by kernel_rfl)) (fun _ _ _ h => h) (Or.inl ⟨by rfl, ?_⟩) ?_ ?_
            rotate_left
            ·
             intro w'
             go_simp
             with_reducible rfl
            rotate_left
            ·
             simp only [Act.put, zS, zT, zU, i64_w, i32_w]
             rfl
            refine pure_ (i := 10) (N := some 40) (v := ?_) (a' := ?_) #[zB,zB,zB,zB,zB,zB,zB,zB,zB,zB,zB,zF,zF,zF,zF,zF,zF,zF,zF,zF,zF,zF,zF,zF,zF,zF] rfl rfl (any_of HT_.out (by kernel_rfl)) (fun _ _ _ h => h) (Or.inl ⟨by rfl, ?_⟩) ?_ ?_
            rotate_left
            ·
             intro w'
             go_simp
             with_reducible rfl
            rotate_left
            ·
             simp only [Act.put, zS, zT, zU, i64_w, i32_w]
             rfl
            refine pure_ (i := 11) (N := some 41) (v := ?_) (a' := ?_) #[zB,zB,zB,zB,zB,zB,zB,zB,zB,zB,zB,zB,zF,zF,zF,zF,zF,zF,zF,zF,zF,zF,zF,zF,zF,zF] rfl rfl (any_of HT_.out (by kernel_rfl)) (fun _ _ _ h => h) (Or.inl ⟨by rfl, ?_⟩) ?_ ?_
            rotate_left
            ·
             intro w'
             go_simp
             with_reducible rfl
            rotate_left
            ·
             simp only [Act.put, zS, zT, zU, i64_w, i32_w]
             rfl
            refine pure_ (i := 12) (N := some 42) (v := ?_) (a' := ?_) #[zB,zB,zB,zB,zB,zB,zB,zB,zB,zB,zB,zB,zB,zF,zF,zF,zF,zF,zF,zF,zF,zF,zF,zF,zF,zF] rfl rfl (any_of HT_.out (by kernel_rfl)) (fun _ _ _ h => h) (Or.inl ⟨by rfl, ?_⟩) ?_ ?_
            rotate_left
            ·
             intro w'
             go_simp
             with_reducible rfl
            rotate_left
            ·
             simp only [Act.put, zS, zT, zU, i64_w, i32_w]
             rfl
            refine pure_ (i := 13) (N := some 43) (v := ?_) (a' := ?_) #[zB,zB,zB,zB,zB,zB,zB,zB,zB,zB,zB,zB,zB,zB,zF,zF,zF,zF,zF,zF,zF,zF,zF,zF,zF,zF] rfl rfl (any_of HT_.out (by kernel_rfl)) (fun _ _ _ h => h) (Or.inl ⟨by rfl, ?_⟩) ?_ ?_
            rotate_left
            ·
             intro w'
             go_simp
             with_reducible rfl
            rotate_left
            ·
             simp only [Act.put, zS, zT, zU, i64_w, i32_w]
             rfl
            refine pure_ (i := 14) (N := some 44) (v := ?_) (a' := ?_) #[zB,zB,zB,zB,zB,zB,zB,zB,zB,zB,zB,zB,zB,zB,zB,zF,zF,zF,zF,zF,zF,zF,zF,zF,zF,zF] rfl rfl (any_of HT_.out (by kernel_rfl)) (fun _ _ _ h => h) (Or.inl ⟨by rfl, ?_⟩) ?_ ?_
            rotate_left
            ·
             intro w'
             go_simp
             with_reducible rfl
            rotate_left
            ·
             simp only [Act.put, zS, zT, zU, i64_w, i32_w]
             rfl
            refine pure_ (i := 15) (N := some 45) (v := ?_) (a' := ?_) #[zB,zB,zB,zB,zB,zB,zB,zB,zB,zB,zB,zB,zB,zB,zB,zB,zF,zF,zF,zF,zF,zF,zF,zF,zF,zF] rfl rfl (any_of HT_.out (by kernel_rfl)) (fun _ _ _ h => h) (Or.inl ⟨by rfl, ?_⟩) ?_ ?_
            rotate_left
            ·
             intro w'
             go_simp
             with_reducible rfl
            rotate_left
            ·
             simp only [Act.put, zS, zT, zU, i64_w, i32_w]
             rfl
            refine pure_ (i := 17) (N := some 47) (v := ?_) (a' := ?_) #[zB,zB,zB,zB,zB,zB,zB,zB,zB,zB,zB,zB,zB,zB,zB,zB,zF,zB,zF,zF,zF,zF,zF,zF,zF,zF] rfl rfl (any_of HT_.out (by kernel_rfl)) (fun _ _ _ h => h) (Or.inl ⟨by rfl, ?_⟩) ?_ ?_
            rotate_left
            ·
             intro w'
             go_simp
             with_reducible rfl
            rotate_left
            ·
             simp only [Act.put, zS, zT, zU, i64_w, i32_w]
             rfl
            refine pure_ (i := 18) (N := some 48) (v := ?_) (a' := ?_) #[zB,zB,zB,zB,zB,zB,zB,zB,zB,zB,zB,zB,zB,zB,zB,zB,zF,zB,zB,zF,zF,zF,zF,zF,zF,zF] rfl rfl (any_of HT_.out (by kernel_rfl)) (fun _ _ _ h => h) (Or.inl ⟨by rfl, ?_⟩) ?_ ?_
            rotate_left
            ·
             intro w'
             go_simp
             with_reducible rfl
            rotate_left
            ·
             simp only [Act.put, zS, zT, zU, i64_w, i32_w]
             rfl
            refine pure_ (i := 19) (N := some 49) (v := ?_) (a' := ?_) #[zB,zB,zB,zB,zB,zB,zB,zB,zB,zB,zB,zB,zB,zB,zB,zB,zF,zB,zB,zB,zF,zF,zF,zF,zF,zF] rfl rfl (any_of HT_.out (by kernel_rfl)) (fun _ _ _ h => h) (Or.inl ⟨by rfl, ?_⟩) ?_ ?_
            rotate_left
            ·
             intro w'
             go_simp
             with_reducible rfl
            rotate_left
            ·
             simp only [Act.put, zS, zT, zU, i64_w, i32_w]
             rfl
            refine pure_ (i := 20) (N := some 50) (v := ?_) (a' := ?_) #[zB,zB,zB,zB,zB,zB,zB,zB,zB,zB,zB,zB,zB,zB,zB,zB,zF,zB,zB,zB,zB,zF,zF,zF,zF,zF] rfl rfl (any_of HT_.out (by kernel_rfl)) (fun _ _ _ h => h) (Or.inl ⟨by rfl, ?_⟩) ?_ ?_
            rotate_left
            ·
             intro w'
             go_simp
             with_reducible rfl
            rotate_left
            ·
             simp only [Act.put, zS, zT, zU, i64_w, i32_w]
             rfl
            refine pure_ (i := 21) (N := some 51) (v := ?_) (a' := ?_) #[zB,zB,zB,zB,zB,zB,zB,zB,zB,zB,zB,zB,zB,zB,zB,zB,zF,zB,zB,zB,zB,zB,zF,zF,zF,zF] rfl rfl (any_of HT_.out (by kernel_rfl)) (fun _ _ _ h => h) (Or.inl ⟨by rfl, ?_⟩) ?_ ?_
            rotate_left
            ·
             intro w'
             go_simp
             with_reducible rfl
            rotate_left
            ·
             simp only [Act.put, zS, zT, zU, i64_w, i32_w]
             rfl
            refine take_ (i := 16) (N := some 46) (v := ?_) (a' := ?_) #[zB,zB,zB,zB,zB,zB,zB,zB,zB,zB,zB,zB,zB,zB,zB,zB,zB,zB,zB,zB,zB,zB,zF,zF,zF,zF] rfl rfl (take_ofW HT_.out HW_.out (by kernel_rfl)) (fun _ _ _ h => h) (Or.inl ⟨by rfl, ?_⟩) hHeld ?_ ?_
            rotate_left
            ·
             rintro w' ⟨s0, s1, s2, s3, s4, s5, s6, s7, s8, s9, s10⟩
             go_simp
             with_reducible rfl
            rotate_left
            ·
             simp only [Act.put, zS, zT, zU, i64_w, i32_w]
             rfl
            refine take_ (i := 22) (N := some 52) (v := ?_) (a' := ?_) #[zB,zB,zB,zB,zB,zB,zB,zB,zB,zB,zB,zB,zB,zB,zB,zB,zB,zB,zB,zB,zB,zB,zB,zF,zF,zF] rfl rfl (take_ofW HT_.out HW_.out (by kernel_rfl)) (fun _ _ _ h => h) (Or.inl ⟨by rfl, ?_⟩) hHeld ?_ ?_
            rotate_left
            ·
             rintro w' ⟨s0, s1, s2, s3, s4, s5, s6, s7, s8, s9, s10⟩
             go_simp
             with_reducible rfl
            rotate_left
            ·
             simp only [Act.put, zS, zT, zU, i64_w, i32_w]
             rfl
            refine pure_ (i := 23) (N := some 53) (v := ?_) (a' := ?_) #[zB,zB,zB,zB,zB,zB,zB,zB,zB,zB,zB,zB,zB,zB,zB,zB,zB,zB,zB,zB,zB,zB,zB,zB,zF,zF] rfl rfl (any_of HT_.out (by kernel_rfl)) (fun _ _ _ h => h) (Or.inl ⟨by rfl, ?_⟩) ?_ ?_
            rotate_left
            ·
             intro w'
             go_simp
             with_reducible rfl
            rotate_left
            ·
             simp only [Act.put, zS, zT, zU, i64_w, i32_w]
             rfl
            refine pure_ (i := 24) (N := some 54) (v := ?_) (a' := ?_) #[zB,zB,zB,zB,zB,zB,zB,zB,zB,zB,zB,zB,zB,zB,zB,zB,zB,zB,zB,zB,zB,zB,zB,zB,zB,zF] rfl rfl (any_of HT_.out (by kernel_rfl)) (fun _ _ _ h => h) (Or.inl ⟨by rfl, ?_⟩) ?_ ?_
            rotate_left
            ·
             intro w'
             go_simp
             with_reducible rfl
            rotate_left
            ·
             simp only [Act.put, zS, zT, zU, i64_w, i32_w]
             rfl
            refine pure_ (i := 25) (N := some 55) (v := ?_) (a' := ?_) #[zB,zB,zB,zB,zB,zB,zB,zB,zB,zB,zB,zB,zB,zB,zB,zB,zB,zB,zB,zB,zB,zB,zB,zB,zB,zB] rfl rfl (any_of HT_.out (by kernel_rfl)) (fun _ _ _ h => h) (Or.inl ⟨by rfl, ?_⟩) ?_ ?_
            rotate_left
            ·
             intro w'
             go_simp
             with_reducible rfl
            rotate_left
            ·
             simp only [Act.put, zS, zT, zU, i64_w, i32_w]
             rfl
            refine done_ (done_of HT_.out (by kernel_rfl)) ?_
            try go_wp2
            go_ret
            exact ⟨by first | rfl | (simp [errW_none, errW_some] <;> rfl) | (simp only [← hji9]; first | rfl | (simp [errW_none, errW_some] <;> rfl)) | (simp [*, errW_none, errW_some] <;> rfl), by repeat (first | (with_reducible first | exact HB.out | apply zA | apply zN | apply zD | refine below_set ?_ GE127.out) | exact HB.out)⟩
          ·
           rw [if_neg c11] at H
           exact absurd H (by simp)
         ·
          rw [if_neg c10] at H
          exact absurd H (by simp)
        ·
         rw [if_neg c8] at H
         have c8b0 : decide (0 < x3_1) = false := decide_eq_false c8
         clear c8
         have H' := zK H
         clear H
         try go_wp2
         have n0_ := zK (zD HB.out)
         clear HB
         have HB := n0_
         clear n0_
         have p123 : 0 ≤ (x3_1 : Int) := zX (by first | (with_reducible assumption) | assumption)
         have q123 : x3_1 < (l0.length : Int) := zX (by first | (with_reducible assumption) | assumption)
         obtain ⟨ad123, e123, hx123_0, hx123_1, hx123_2⟩ := at_T96 HR0.out x3_1 p123 q123
         have hw123_2 := hx123_2
         have hw123_1 := hx123_1
         have hw123_0 := hx123_0
         cases e123
         replace hx123_0 := (HB.out.cell (zL w _ hx123_0)).trans hx123_0
         replace hx123_1 := (HB.out.cell (zL w _ hx123_1)).trans hx123_1
         replace hx123_2 := (HB.out.cell (zL w _ hx123_2)).trans hx123_2
         replace p123 := eq_true p123
         replace q123 := eq_true q123
         have p124 : 0 ≤ (x3_1 : Int) := zX (by first | (with_reducible assumption) | assumption)
         have q124 : x3_1 < (l0.length : Int) := zX (by first | (with_reducible assumption) | assumption)
         obtain ⟨ad124, e124, hx124_0, hx124_1, hx124_2⟩ := at_T96 HR0.out x3_1 p124 q124
         have hw124_2 := hx124_2
         have hw124_1 := hx124_1
         have hw124_0 := hx124_0
         obtain rfl : ad123 = ad124 := (by injection e124)
         replace hx124_0 := (HB.out.cell (zL w _ hx124_0)).trans hx124_0
         replace hx124_1 := (HB.out.cell (zL w _ hx124_1)).trans hx124_1
         replace hx124_2 := (HB.out.cell (zL w _ hx124_2)).trans hx124_2
         replace p124 := eq_true p124
         replace q124 := eq_true q124
         refine start_ (n := 13) (S := fun w' => w'.cell? (ad123.add ((x3_1).toNat * 3)) = some (.string ((rd_T96 l0 x3_1).f0)) ∧ w'.cell? ⟨(ad123.add ((x3_1).toNat * 3)).block, (ad123.add ((x3_1).toNat * 3)).off + 1, none⟩ = some (.int .i64 ((rd_T96 l0 x3_1).f1)) ∧ w'.cell? ⟨(ad123.add ((x3_1).toNat * 3)).block, (ad123.add ((x3_1).toNat * 3)).off + 2, none⟩ = some (.string ((rd_T96 l0 x3_1).f2)) ∧ w'.cell? (ad123.add ((x3_1).toNat * 3)) = some (.string ((rd_T96 l0 x3_1).f0)) ∧ w'.cell? ⟨(ad123.add ((x3_1).toNat * 3)).block, (ad123.add ((x3_1).toNat * 3)).off + 1, none⟩ = some (.int .i64 ((rd_T96 l0 x3_1).f1)) ∧ w'.cell? ⟨(ad123.add ((x3_1).toNat * 3)).block, (ad123.add ((x3_1).toNat * 3)).off + 2, none⟩ = some (.string ((rd_T96 l0 x3_1).f2))) (ds := []) #[zF,zF,zF,zF,zF,zF,zF,zF,zF,zF,zF,zF,zF] (by kernel_rfl) rfl rfl ⟨((HB.out.cell (zL w _ hw123_0)).trans hw123_0), ((HB.out.cell (zL w _ hw123_1)).trans hw123_1), ((HB.out.cell (zL w _ hw123_2)).trans hw123_2), ((HB.out.cell (zL w _ hw124_0)).trans hw124_0), ((HB.out.cell (zL w _ hw124_1)).trans hw124_1), ((HB.out.cell (zL w _ hw124_2)).trans hw124_2)⟩ (fun hHeld => ?_); refine with_tabW spec_StoreFault.tab6 spec_StoreFault.bits6 (fun HT_ HW_ => ?_)
         generalize wr.drew = w31 at HB hx123_0 hx123_1 hx123_2 hx124_0 hx124_1 hx124_2 hHeld ⊢
         refine pure_ (i := 0) (N := some 14) (v := ?_) (a' := ?_) #[zB,zF,zF,zF,zF,zF,zF,zF,zF,zF,zF,zF,zF] rfl rfl (any_of HT_.out (by kernel_rfl)) (fun _ _ _ h => h) (Or.inl ⟨by rfl, ?_⟩) ?_ ?_
         rotate_left
         ·
          intro w'
          go_simp
          with_reducible rfl
         rotate_left
         ·
          simp only [Act.put, zS, zT, zU, i64_w, i32_w]
          rfl
         refine pure_ (i := 1) (N := some 15) (v := ?_) (a' := ?_) #[zB,zB,zF,zF,zF,zF,zF,zF,zF,zF,zF,zF,zF] rfl rfl (any_of HT_.out (by kernel_rfl)) (fun _ _ _ h => h) (Or.inl ⟨by rfl, ?_⟩) ?_ ?_
         rotate_left
         ·
          intro w'
          go_simp
          with_reducible rfl
         rotate_left
         ·
          simp only [Act.put, zS, zT, zU, i64_w, i32_w]
          rfl
         refine pure_ (i := 2) (N := some 16) (v := ?_) (a' := ?_) #[zB,zB,zB,zF,zF,zF,zF,zF,zF,zF,zF,zF,zF] rfl rfl (any_of HT_.out (by kernel_rfl)) (fun _ _ _ h => h) (Or.inl ⟨by rfl, ?_⟩) ?_ ?_
         rotate_left
         ·
          intro w'
          go_simp
          with_reducible rfl
         rotate_left
         ·
          simp only [Act.put, zS, zT, zU, i64_w, i32_w]
          rfl
         refine pure_ (i := 3) (N := some 17) (v := ?_) (a' := ?_) #[zB,zB,zB,zB,zF,zF,zF,zF,zF,zF,zF,zF,zF] rfl rfl (any_of HT_.out (by kernel_rfl)) (fun _ _ _ h => h) (Or.inl ⟨by rfl, ?_⟩) ?_ ?_
         rotate_left
         ·
          intro w'
          go_simp
          with_reducible rfl
         rotate_left
         ·
          simp only [Act.put, zS, zT, zU, i64_w, i32_w]
          rfl
         refine pure_ (i := 5) (N := some 19) (v := ?_) (a' := ?_) #[zB,zB,zB,zB,zF,zB,zF,zF,zF,zF,zF,zF,zF] rfl rfl (any_of HT_.out (by kernel_rfl)) (fun _ _ _ h => h) (Or.inl ⟨by rfl, ?_⟩) ?_ ?_
         rotate_left
         ·
          intro w'
          go_simp
          with_reducible rfl
         rotate_left
         ·
          simp only [Act.put, zS, zT, zU, i64_w, i32_w]
          rfl
         refine pure_ (i := 6) (N := some 20) (v := ?_) (a' := ?_) #[zB,zB,zB,zB,zF,zB,zB,zF,zF,zF,zF,zF,zF] rfl rfl (any_of HT_.out (by kernel_rfl)) (fun _ _ _ h => h) (Or.inl ⟨by rfl, ?_⟩) ?_ ?_
         rotate_left
         ·
          intro w'
          go_simp
          with_reducible rfl
         rotate_left
         ·
          simp only [Act.put, zS, zT, zU, i64_w, i32_w]
          rfl
         refine pure_ (i := 7) (N := some 21) (v := ?_) (a' := ?_) #[zB,zB,zB,zB,zF,zB,zB,zB,zF,zF,zF,zF,zF] rfl rfl (any_of HT_.out (by kernel_rfl)) (fun _ _ _ h => h) (Or.inl ⟨by rfl, ?_⟩) ?_ ?_
         rotate_left
         ·
          intro w'
          go_simp
          with_reducible rfl
         rotate_left
         ·
          simp only [Act.put, zS, zT, zU, i64_w, i32_w]
          rfl
         refine pure_ (i := 8) (N := some 22) (v := ?_) (a' := ?_) #[zB,zB,zB,zB,zF,zB,zB,zB,zB,zF,zF,zF,zF] rfl rfl (any_of HT_.out (by kernel_rfl)) (fun _ _ _ h => h) (Or.inl ⟨by rfl, ?_⟩) ?_ ?_
         rotate_left
         ·
          intro w'
          go_simp
          with_reducible rfl
         rotate_left
         ·
          simp only [Act.put, zS, zT, zU, i64_w, i32_w]
          rfl
         refine take_ (i := 4) (N := some 18) (v := ?_) (a' := ?_) #[zB,zB,zB,zB,zB,zB,zB,zB,zB,zF,zF,zF,zF] rfl rfl (take_ofW HT_.out HW_.out (by kernel_rfl)) (fun _ _ _ h => h) (Or.inl ⟨by rfl, ?_⟩) hHeld ?_ ?_
         rotate_left
         ·
          rintro w' ⟨s0, s1, s2, s3, s4, s5⟩
          go_simp
          with_reducible rfl
         rotate_left
         ·
          simp only [Act.put, zS, zT, zU, i64_w, i32_w]
          rfl
         refine take_ (i := 9) (N := some 23) (v := ?_) (a' := ?_) #[zB,zB,zB,zB,zB,zB,zB,zB,zB,zB,zF,zF,zF] rfl rfl (take_ofW HT_.out HW_.out (by kernel_rfl)) (fun _ _ _ h => h) (Or.inl ⟨by rfl, ?_⟩) hHeld ?_ ?_
         rotate_left
         ·
          rintro w' ⟨s0, s1, s2, s3, s4, s5⟩
          go_simp
          with_reducible rfl
         rotate_left
         ·
          simp only [Act.put, zS, zT, zU, i64_w, i32_w]
          rfl
         refine join_ (σ := Nat) 1 #[zB,zB,zB,zB,zB,zB,zB,zB,zB,zB,zB,zB,zF] (fun s_ => [(24, .agg #[.int .i64 t125, .string t126]), (4, .pointer (some ⟨s_, 0, none⟩))]) (fun s_ w' => (w'.cell? (ad123.add ((x3_1).toNat * 3)) = some (.string ((rd_T96 l0 x3_1).f0)) ∧ w'.cell? ⟨(ad123.add ((x3_1).toNat * 3)).block, (ad123.add ((x3_1).toNat * 3)).off + 1, none⟩ = some (.int .i64 ((rd_T96 l0 x3_1).f1)) ∧ w'.cell? ⟨(ad123.add ((x3_1).toNat * 3)).block, (ad123.add ((x3_1).toNat * 3)).off + 2, none⟩ = some (.string ((rd_T96 l0 x3_1).f2)) ∧ w'.cell? (ad123.add ((x3_1).toNat * 3)) = some (.string ((rd_T96 l0 x3_1).f0)) ∧ w'.cell? ⟨(ad123.add ((x3_1).toNat * 3)).block, (ad123.add ((x3_1).toNat * 3)).off + 1, none⟩ = some (.int .i64 ((rd_T96 l0 x3_1).f1)) ∧ w'.cell? ⟨(ad123.add ((x3_1).toNat * 3)).block, (ad123.add ((x3_1).toNat * 3)).off + 2, none⟩ = some (.string ((rd_T96 l0 x3_1).f2))) ∧ (w'.heap[s_]? = some (.cells #[.int .i64 0, .string (⟨#[]⟩ : ByteArray)] 36 (0, 0))) ∧ (w.heap.size ≤ s_) ∧ (w.heap.size ≤ s_) ∧ (Below w.heap.size w w')) ?_ ?_
         rotate_left
         ·
          intro hCont
          refine two_ (i := 10) (j := 11) (Ni := some 24) (Nj := some 4) #[zB,zB,zB,zB,zB,zB,zB,zB,zB,zB,zB,zF,zF] #[zB,zB,zB,zB,zB,zB,zB,zB,zB,zB,zF,zB,zF] rfl rfl rfl rfl (two_of HT_.out (by kernel_rfl)) (by decide) (by decide) (fun K hK => ?_) (fun K hK => ?_)
          ·
           skip
           refine goes_ Tryd.func67 (by kernel_rfl) rfl #[.int .i64 ((rd_T96 l0 x3_1).f1), .string ((rd_T96 l0 x3_1).f2)] (by rfl) rfl rfl (by (try simp only [List.map_toArray, List.map_cons, List.map_nil]); first | done | rfl | (simp only [List.length_drop, List.length_take]; rfl)) ?_
           with_reducible refine (spec_IdOf.calls k1 ((rd_T96 l0 x3_1).f1) ((rd_T96 l0 x3_1).f2) t125 t126 _ A5.out).mono ?_
           rintro e w32 ⟨rfl, hb⟩
           refine ⟨_, rfl, ?_⟩
           have n0_ := zK (below_step (by repeat (first | (with_reducible first | exact HB.out | apply zA | apply zN | apply zD) | exact HB.out)) hb)
           clear HB
           have HB := n0_
           clear n0_
           (try clear hb)
           (try clear hb2)
           (try clear hk)
           (try clear hi)
           refine hK.out _ _ ⟨((HB.out.cell (zL w _ hw123_0)).trans hw123_0), ((HB.out.cell (zL w _ hw123_1)).trans hw123_1), ((HB.out.cell (zL w _ hw123_2)).trans hw123_2), ((HB.out.cell (zL w _ hw124_0)).trans hw124_0), ((HB.out.cell (zL w _ hw124_1)).trans hw124_1), ((HB.out.cell (zL w _ hw124_2)).trans hw124_2)⟩ (fun hHeld => ?_)
           clear hK K
           refine norm_ (a' := ?_) ?_ ?_
           rotate_left
           ·
            show Act.put _ (some 24) _ = _
            simp only [Act.put, zS, zT, zU, i64_w, i32_w]
            rfl
           refine one_ (i := 11) (N := some 4) #[zB,zB,zB,zB,zB,zB,zB,zB,zB,zB,zB,zB,zF] rfl rfl (one_of HT_.out (by kernel_rfl)) (by decide) (fun K hK => ?_)
           refine box_step ?hg (N := 4) ?hd (cs := #[.int .i64 0, .string (⟨#[]⟩ : ByteArray)]) (t := 36) ?hr ?_; (case hd => rfl); (case hg => rfl); (case hr => first | (go_simp; done) | (go_simp; rfl))
           intro gb127 hg w33 hbox hb
           have n0_ := zK (below_step (by repeat (first | (with_reducible first | exact HB.out | apply zA | apply zN | apply zD) | exact HB.out)) hb)
           have n1_ := zK (hbox)
           have n2_ := zK ((by rw [hg]; exact (below_size (by repeat (first | (with_reducible first | exact HB.out | apply zA | apply zN | apply zD) | exact HB.out))) : w.heap.size ≤ gb127))
           have n3_ := zK ((by rw [hg]; exact (below_size (by repeat (first | (with_reducible first | exact HB.out | apply zA | apply zN | apply zD) | exact HB.out))) : w.heap.size ≤ gb127))
           clear HB
           have HB := n0_
           have BK127 := n1_
           have GW127 := n2_
           have GE127 := n3_
           clear n0_ n1_ n2_ n3_
           clear hb hbox hg
           refine hK.out _ _ ⟨((HB.out.cell (zL w _ hw123_0)).trans hw123_0), ((HB.out.cell (zL w _ hw123_1)).trans hw123_1), ((HB.out.cell (zL w _ hw123_2)).trans hw123_2), ((HB.out.cell (zL w _ hw124_0)).trans hw124_0), ((HB.out.cell (zL w _ hw124_1)).trans hw124_1), ((HB.out.cell (zL w _ hw124_2)).trans hw124_2)⟩ (fun hHeld => ?_)
           clear hK K
           refine norm_ (a' := ?_) ?_ ?_
           rotate_left
           ·
            show Act.put _ (some 4) _ = _
            simp only [Act.put, zS, zT, zU, i64_w, i32_w]
            rfl
           exact norm_ (by simp only [putAll, Act.put, zS, zT, zU]) (hCont (gb127) _ ⟨hHeld, (by (with_reducible repeat (first | refine zM ?_ _ | refine zP ?_ | refine zQ ?_ _)); exact BK127.out), GW127.out, GE127.out, (by repeat (first | (with_reducible first | exact HB.out | apply zA | apply zN | apply zD | refine below_set ?_ GE127.out) | exact HB.out))⟩)
          ·
           skip
           refine box_step ?hg (N := 4) ?hd (cs := #[.int .i64 0, .string (⟨#[]⟩ : ByteArray)]) (t := 36) ?hr ?_; (case hd => rfl); (case hg => rfl); (case hr => first | (go_simp; done) | (go_simp; rfl))
           intro gb127 hg w32 hbox hb
           have n0_ := zK (below_step (by repeat (first | (with_reducible first | exact HB.out | apply zA | apply zN | apply zD) | exact HB.out)) hb)
           have n1_ := zK (hbox)
           have n2_ := zK ((by rw [hg]; exact (below_size (by repeat (first | (with_reducible first | exact HB.out | apply zA | apply zN | apply zD) | exact HB.out))) : w.heap.size ≤ gb127))
           have n3_ := zK ((by rw [hg]; exact (below_size (by repeat (first | (with_reducible first | exact HB.out | apply zA | apply zN | apply zD) | exact HB.out))) : w.heap.size ≤ gb127))
           clear HB
           have HB := n0_
           have BK127 := n1_
           have GW127 := n2_
           have GE127 := n3_
           clear n0_ n1_ n2_ n3_
           clear hb hbox hg
           refine hK.out _ _ ⟨((HB.out.cell (zL w _ hw123_0)).trans hw123_0), ((HB.out.cell (zL w _ hw123_1)).trans hw123_1), ((HB.out.cell (zL w _ hw123_2)).trans hw123_2), ((HB.out.cell (zL w _ hw124_0)).trans hw124_0), ((HB.out.cell (zL w _ hw124_1)).trans hw124_1), ((HB.out.cell (zL w _ hw124_2)).trans hw124_2)⟩ (fun hHeld => ?_)
           clear hK K
           refine norm_ (a' := ?_) ?_ ?_
           rotate_left
           ·
            show Act.put _ (some 4) _ = _
            simp only [Act.put, zS, zT, zU, i64_w, i32_w]
            rfl
           refine one_ (i := 10) (N := some 24) #[zB,zB,zB,zB,zB,zB,zB,zB,zB,zB,zB,zB,zF] rfl rfl (one_of HT_.out (by kernel_rfl)) (by decide) (fun K hK => ?_)
           refine goes_ Tryd.func67 (by kernel_rfl) rfl #[.int .i64 ((rd_T96 l0 x3_1).f1), .string ((rd_T96 l0 x3_1).f2)] (by rfl) rfl rfl (by (try simp only [List.map_toArray, List.map_cons, List.map_nil]); first | done | rfl | (simp only [List.length_drop, List.length_take]; rfl)) ?_
           with_reducible refine (spec_IdOf.calls k1 ((rd_T96 l0 x3_1).f1) ((rd_T96 l0 x3_1).f2) t125 t126 _ A5.out).mono ?_
           rintro e w33 ⟨rfl, hb⟩
           refine ⟨_, rfl, ?_⟩
           have n0_ := zK (blk_below (g := gb127) (o := .cells #[.int .i64 0, .string (⟨#[]⟩ : ByteArray)] 36 (0, 0)) (by (with_reducible repeat (first | refine zM ?_ _ | refine zP ?_ | refine zQ ?_ _)); exact BK127.out) hb)
           have n1_ := zK (below_step (by repeat (first | (with_reducible first | exact HB.out | apply zA | apply zN | apply zD | refine below_set ?_ GE127.out) | exact HB.out)) hb)
           clear BK127
           clear HB
           have BK127 := n0_
           have HB := n1_
           clear n0_ n1_
           (try clear hb)
           (try clear hb2)
           (try clear hk)
           (try clear hi)
           refine hK.out _ _ ⟨((HB.out.cell (zL w _ hw123_0)).trans hw123_0), ((HB.out.cell (zL w _ hw123_1)).trans hw123_1), ((HB.out.cell (zL w _ hw123_2)).trans hw123_2), ((HB.out.cell (zL w _ hw124_0)).trans hw124_0), ((HB.out.cell (zL w _ hw124_1)).trans hw124_1), ((HB.out.cell (zL w _ hw124_2)).trans hw124_2)⟩ (fun hHeld => ?_)
           clear hK K
           refine norm_ (a' := ?_) ?_ ?_
           rotate_left
           ·
            show Act.put _ (some 24) _ = _
            simp only [Act.put, zS, zT, zU, i64_w, i32_w]
            rfl
           exact norm_ (by simp only [putAll, Act.put, zS, zT, zU]) (hCont (gb127) _ ⟨hHeld, (by (with_reducible repeat (first | refine zM ?_ _ | refine zP ?_ | refine zQ ?_ _)); exact BK127.out), GW127.out, GE127.out, (by repeat (first | (with_reducible first | exact HB.out | apply zA | apply zN | apply zD | refine below_set ?_ GE127.out) | exact HB.out))⟩)
         rintro gb127 w34 ⟨hS_, h0_, h1_, h2_, h3_⟩
         have n0_ : Aside0 (w34.heap[gb127]? = some (.cells #[.int .i64 0, .string (⟨#[]⟩ : ByteArray)] 36 (0, 0))) := ⟨h0_⟩
         have n1_ : Aside0 (w.heap.size ≤ gb127) := ⟨h1_⟩
         have n2_ : Aside0 (w.heap.size ≤ gb127) := ⟨h2_⟩
         have n3_ : Aside0 (Below w.heap.size w w34) := ⟨h3_⟩
         clear HB
         clear h0_ h1_ h2_ h3_
         have BK127 := n0_
         have GW127 := n1_
         have GE127 := n2_
         have HB := n3_
         clear n0_ n1_ n2_ n3_
         have hHeld : w34.cell? (ad123.add ((x3_1).toNat * 3)) = some (.string ((rd_T96 l0 x3_1).f0)) ∧ w34.cell? ⟨(ad123.add ((x3_1).toNat * 3)).block, (ad123.add ((x3_1).toNat * 3)).off + 1, none⟩ = some (.int .i64 ((rd_T96 l0 x3_1).f1)) ∧ w34.cell? ⟨(ad123.add ((x3_1).toNat * 3)).block, (ad123.add ((x3_1).toNat * 3)).off + 2, none⟩ = some (.string ((rd_T96 l0 x3_1).f2)) ∧ w34.cell? (ad123.add ((x3_1).toNat * 3)) = some (.string ((rd_T96 l0 x3_1).f0)) ∧ w34.cell? ⟨(ad123.add ((x3_1).toNat * 3)).block, (ad123.add ((x3_1).toNat * 3)).off + 1, none⟩ = some (.int .i64 ((rd_T96 l0 x3_1).f1)) ∧ w34.cell? ⟨(ad123.add ((x3_1).toNat * 3)).block, (ad123.add ((x3_1).toNat * 3)).off + 2, none⟩ = some (.string ((rd_T96 l0 x3_1).f2)) := hS_
         refine norm_ (a' := ?_) ?_ ?_
         rotate_left
         ·
          simp only [putAll, Act.put, zS, zT, zU]
          rfl
         refine one_ (i := 12) (N := none) #[zB,zB,zB,zB,zB,zB,zB,zB,zB,zB,zB,zB,zB] rfl rfl (one_of HT_.out (by kernel_rfl)) (by decide) (fun K hK => ?_)
         have hs35 : w34.cell? ⟨gb127, 0, none⟩ = some (.int .i64 0) := (blk_cell BK127.out 0).trans rfl
         have hfs35 := blk_frozen BK127.out 0
         have hs36 : w34.cell? ⟨gb127, 1, none⟩ = some (.string (⟨#[]⟩ : ByteArray)) := (blk_cell BK127.out 1).trans rfl
         have hfs36 := blk_frozen BK127.out 1
         refine skip_ (w1 := ?_) (by rfl) rfl ?_ ?_
         rotate_left
         ·
          go_simp
          rfl
         refine hK.out _ _ ⟨((cell_far (p := ⟨gb127, _, none⟩) (by first | exact Nat.ne_of_lt (Nat.lt_of_lt_of_le (by have := zL _ _ hw123_0; first | rwa [add_block] at this | exact this) GW127.out) | (rw [add_block]; exact Nat.ne_of_lt (Nat.lt_of_lt_of_le (by have := zL _ _ hw123_0; first | rwa [add_block] at this | exact this) GW127.out)) | (show (Addr.add _ _).block ≠ _; rw [add_block]; exact Nat.ne_of_lt (Nat.lt_of_lt_of_le (by have := zL _ _ hw123_0; first | rwa [add_block] at this | exact this) GW127.out)) | (dsimp only; exact Nat.ne_of_lt (Nat.lt_of_lt_of_le (by have := zL _ _ hw123_0; first | rwa [add_block] at this | exact this) GW127.out))) _).trans (((cell_far (p := ⟨gb127, _, none⟩) (by first | exact Nat.ne_of_lt (Nat.lt_of_lt_of_le (by have := zL _ _ hw123_0; first | rwa [add_block] at this | exact this) GW127.out) | (rw [add_block]; exact Nat.ne_of_lt (Nat.lt_of_lt_of_le (by have := zL _ _ hw123_0; first | rwa [add_block] at this | exact this) GW127.out)) | (show (Addr.add _ _).block ≠ _; rw [add_block]; exact Nat.ne_of_lt (Nat.lt_of_lt_of_le (by have := zL _ _ hw123_0; first | rwa [add_block] at this | exact this) GW127.out)) | (dsimp only; exact Nat.ne_of_lt (Nat.lt_of_lt_of_le (by have := zL _ _ hw123_0; first | rwa [add_block] at this | exact this) GW127.out))) _).trans (hHeld.1)))), ((cell_far (p := ⟨gb127, _, none⟩) (by first | exact Nat.ne_of_lt (Nat.lt_of_lt_of_le (by have := zL _ _ hw123_1; first | rwa [add_block] at this | exact this) GW127.out) | (rw [add_block]; exact Nat.ne_of_lt (Nat.lt_of_lt_of_le (by have := zL _ _ hw123_1; first | rwa [add_block] at this | exact this) GW127.out)) | (show (Addr.add _ _).block ≠ _; rw [add_block]; exact Nat.ne_of_lt (Nat.lt_of_lt_of_le (by have := zL _ _ hw123_1; first | rwa [add_block] at this | exact this) GW127.out)) | (dsimp only; exact Nat.ne_of_lt (Nat.lt_of_lt_of_le (by have := zL _ _ hw123_1; first | rwa [add_block] at this | exact this) GW127.out))) _).trans (((cell_far (p := ⟨gb127, _, none⟩) (by first | exact Nat.ne_of_lt (Nat.lt_of_lt_of_le (by have := zL _ _ hw123_1; first | rwa [add_block] at this | exact this) GW127.out) | (rw [add_block]; exact Nat.ne_of_lt (Nat.lt_of_lt_of_le (by have := zL _ _ hw123_1; first | rwa [add_block] at this | exact this) GW127.out)) | (show (Addr.add _ _).block ≠ _; rw [add_block]; exact Nat.ne_of_lt (Nat.lt_of_lt_of_le (by have := zL _ _ hw123_1; first | rwa [add_block] at this | exact this) GW127.out)) | (dsimp only; exact Nat.ne_of_lt (Nat.lt_of_lt_of_le (by have := zL _ _ hw123_1; first | rwa [add_block] at this | exact this) GW127.out))) _).trans (hHeld.2.1)))), ((cell_far (p := ⟨gb127, _, none⟩) (by first | exact Nat.ne_of_lt (Nat.lt_of_lt_of_le (by have := zL _ _ hw123_2; first | rwa [add_block] at this | exact this) GW127.out) | (rw [add_block]; exact Nat.ne_of_lt (Nat.lt_of_lt_of_le (by have := zL _ _ hw123_2; first | rwa [add_block] at this | exact this) GW127.out)) | (show (Addr.add _ _).block ≠ _; rw [add_block]; exact Nat.ne_of_lt (Nat.lt_of_lt_of_le (by have := zL _ _ hw123_2; first | rwa [add_block] at this | exact this) GW127.out)) | (dsimp only; exact Nat.ne_of_lt (Nat.lt_of_lt_of_le (by have := zL _ _ hw123_2; first | rwa [add_block] at this | exact this) GW127.out))) _).trans (((cell_far (p := ⟨gb127, _, none⟩) (by first | exact Nat.ne_of_lt (Nat.lt_of_lt_of_le (by have := zL _ _ hw123_2; first | rwa [add_block] at this | exact this) GW127.out) | (rw [add_block]; exact Nat.ne_of_lt (Nat.lt_of_lt_of_le (by have := zL _ _ hw123_2; first | rwa [add_block] at this | exact this) GW127.out)) | (show (Addr.add _ _).block ≠ _; rw [add_block]; exact Nat.ne_of_lt (Nat.lt_of_lt_of_le (by have := zL _ _ hw123_2; first | rwa [add_block] at this | exact this) GW127.out)) | (dsimp only; exact Nat.ne_of_lt (Nat.lt_of_lt_of_le (by have := zL _ _ hw123_2; first | rwa [add_block] at this | exact this) GW127.out))) _).trans (hHeld.2.2.1)))), ((cell_far (p := ⟨gb127, _, none⟩) (by first | exact Nat.ne_of_lt (Nat.lt_of_lt_of_le (by have := zL _ _ hw124_0; first | rwa [add_block] at this | exact this) GW127.out) | (rw [add_block]; exact Nat.ne_of_lt (Nat.lt_of_lt_of_le (by have := zL _ _ hw124_0; first | rwa [add_block] at this | exact this) GW127.out)) | (show (Addr.add _ _).block ≠ _; rw [add_block]; exact Nat.ne_of_lt (Nat.lt_of_lt_of_le (by have := zL _ _ hw124_0; first | rwa [add_block] at this | exact this) GW127.out)) | (dsimp only; exact Nat.ne_of_lt (Nat.lt_of_lt_of_le (by have := zL _ _ hw124_0; first | rwa [add_block] at this | exact this) GW127.out))) _).trans (((cell_far (p := ⟨gb127, _, none⟩) (by first | exact Nat.ne_of_lt (Nat.lt_of_lt_of_le (by have := zL _ _ hw124_0; first | rwa [add_block] at this | exact this) GW127.out) | (rw [add_block]; exact Nat.ne_of_lt (Nat.lt_of_lt_of_le (by have := zL _ _ hw124_0; first | rwa [add_block] at this | exact this) GW127.out)) | (show (Addr.add _ _).block ≠ _; rw [add_block]; exact Nat.ne_of_lt (Nat.lt_of_lt_of_le (by have := zL _ _ hw124_0; first | rwa [add_block] at this | exact this) GW127.out)) | (dsimp only; exact Nat.ne_of_lt (Nat.lt_of_lt_of_le (by have := zL _ _ hw124_0; first | rwa [add_block] at this | exact this) GW127.out))) _).trans (hHeld.2.2.2.1)))), ((cell_far (p := ⟨gb127, _, none⟩) (by first | exact Nat.ne_of_lt (Nat.lt_of_lt_of_le (by have := zL _ _ hw124_1; first | rwa [add_block] at this | exact this) GW127.out) | (rw [add_block]; exact Nat.ne_of_lt (Nat.lt_of_lt_of_le (by have := zL _ _ hw124_1; first | rwa [add_block] at this | exact this) GW127.out)) | (show (Addr.add _ _).block ≠ _; rw [add_block]; exact Nat.ne_of_lt (Nat.lt_of_lt_of_le (by have := zL _ _ hw124_1; first | rwa [add_block] at this | exact this) GW127.out)) | (dsimp only; exact Nat.ne_of_lt (Nat.lt_of_lt_of_le (by have := zL _ _ hw124_1; first | rwa [add_block] at this | exact this) GW127.out))) _).trans (((cell_far (p := ⟨gb127, _, none⟩) (by first | exact Nat.ne_of_lt (Nat.lt_of_lt_of_le (by have := zL _ _ hw124_1; first | rwa [add_block] at this | exact this) GW127.out) | (rw [add_block]; exact Nat.ne_of_lt (Nat.lt_of_lt_of_le (by have := zL _ _ hw124_1; first | rwa [add_block] at this | exact this) GW127.out)) | (show (Addr.add _ _).block ≠ _; rw [add_block]; exact Nat.ne_of_lt (Nat.lt_of_lt_of_le (by have := zL _ _ hw124_1; first | rwa [add_block] at this | exact this) GW127.out)) | (dsimp only; exact Nat.ne_of_lt (Nat.lt_of_lt_of_le (by have := zL _ _ hw124_1; first | rwa [add_block] at this | exact this) GW127.out))) _).trans (hHeld.2.2.2.2.1)))), ((cell_far (p := ⟨gb127, _, none⟩) (by first | exact Nat.ne_of_lt (Nat.lt_of_lt_of_le (by have := zL _ _ hw124_2; first | rwa [add_block] at this | exact this) GW127.out) | (rw [add_block]; exact Nat.ne_of_lt (Nat.lt_of_lt_of_le (by have := zL _ _ hw124_2; first | rwa [add_block] at this | exact this) GW127.out)) | (show (Addr.add _ _).block ≠ _; rw [add_block]; exact Nat.ne_of_lt (Nat.lt_of_lt_of_le (by have := zL _ _ hw124_2; first | rwa [add_block] at this | exact this) GW127.out)) | (dsimp only; exact Nat.ne_of_lt (Nat.lt_of_lt_of_le (by have := zL _ _ hw124_2; first | rwa [add_block] at this | exact this) GW127.out))) _).trans (((cell_far (p := ⟨gb127, _, none⟩) (by first | exact Nat.ne_of_lt (Nat.lt_of_lt_of_le (by have := zL _ _ hw124_2; first | rwa [add_block] at this | exact this) GW127.out) | (rw [add_block]; exact Nat.ne_of_lt (Nat.lt_of_lt_of_le (by have := zL _ _ hw124_2; first | rwa [add_block] at this | exact this) GW127.out)) | (show (Addr.add _ _).block ≠ _; rw [add_block]; exact Nat.ne_of_lt (Nat.lt_of_lt_of_le (by have := zL _ _ hw124_2; first | rwa [add_block] at this | exact this) GW127.out)) | (dsimp only; exact Nat.ne_of_lt (Nat.lt_of_lt_of_le (by have := zL _ _ hw124_2; first | rwa [add_block] at this | exact this) GW127.out))) _).trans (hHeld.2.2.2.2.2))))⟩ (fun hHeld => ?_)
         clear hK K
         refine done_ (done_of HT_.out (by kernel_rfl)) ?_
         have hcz37_0 : w34.cell? ⟨gb127, 0, none⟩ = some (.int .i64 0) := (blk_cell BK127.out 0).trans rfl
         have hcz37_1 : w34.cell? ⟨gb127, 1, none⟩ = some (.string (⟨#[]⟩ : ByteArray)) := (blk_cell BK127.out 1).trans rfl
         have hfz37_0 := blk_frozen BK127.out 0
         have hfz37_1 := blk_frozen BK127.out 1
         try go_wp2
         have n0_ : Aside0 (((w34.setCell ⟨gb127, 0, none⟩ (.int .i64 t125)).setCell ⟨gb127, 1, none⟩ (.string t126)).heap[gb127]? = some (.cells #[.int .i64 t125, .string t126] 36 (0, 0))) := ⟨by (with_reducible repeat (first | refine zM ?_ _ | refine zP ?_ | refine zQ ?_ _)); refine blk_put (cs := #[.int .i64 t125, .string (⟨#[]⟩ : ByteArray)]) ?_ 1 _ rfl; (with_reducible repeat (first | refine zM ?_ _ | refine zP ?_ | refine zQ ?_ _)); refine blk_put (cs := #[.int .i64 0, .string (⟨#[]⟩ : ByteArray)]) ?_ 0 _ rfl; (with_reducible repeat (first | refine zM ?_ _ | refine zP ?_ | refine zQ ?_ _)); exact BK127.out⟩
         have n1_ : Aside0 (Below w.heap.size w ((w34.setCell ⟨gb127, 0, none⟩ (.int .i64 t125)).setCell ⟨gb127, 1, none⟩ (.string t126))) := ⟨by repeat (first | (with_reducible first | exact HB.out | apply zA | apply zN | apply zD | refine below_set ?_ GE127.out) | exact HB.out)⟩
         (try clear BK127)
         (try clear HB)
         generalize ((w34.setCell ⟨gb127, 0, none⟩ (.int .i64 t125)).setCell ⟨gb127, 1, none⟩ (.string t126)) = w38 at n0_ n1_ ⊢
         have BK127 := n0_
         have HB := n1_
         clear n0_ n1_
         have n0_ := zK (zP BK127.out)
         have n1_ := zK (zD HB.out)
         clear BK127
         clear HB
         have BK127 := n0_
         have HB := n1_
         clear n0_ n1_
         have p128 : 0 ≤ (x3_1 : Int) := zX (by first | (with_reducible assumption) | assumption)
         have q128 : x3_1 < (l0.length : Int) := zX (by first | (with_reducible assumption) | assumption)
         obtain ⟨ad128, e128, hx128_0, hx128_1, hx128_2⟩ := at_T96 HR0.out x3_1 p128 q128
         have hw128_2 := hx128_2
         have hw128_1 := hx128_1
         have hw128_0 := hx128_0
         obtain rfl : ad123 = ad128 := (by injection e128)
         replace hx128_0 := (HB.out.cell (zL w _ hx128_0)).trans hx128_0
         replace hx128_1 := (HB.out.cell (zL w _ hx128_1)).trans hx128_1
         replace hx128_2 := (HB.out.cell (zL w _ hx128_2)).trans hx128_2
         replace p128 := eq_true p128
         replace q128 := eq_true q128
         refine start_ (n := 26) (S := fun w' => w'.cell? ⟨gb127, 0, none⟩ = some (.int .i64 t125) ∧ w'.cell? ⟨gb127, 1, none⟩ = some (.string t126) ∧ w'.cell? (ad123.add ((x3_1).toNat * 3)) = some (.string ((rd_T96 l0 x3_1).f0)) ∧ w'.cell? ⟨(ad123.add ((x3_1).toNat * 3)).block, (ad123.add ((x3_1).toNat * 3)).off + 1, none⟩ = some (.int .i64 ((rd_T96 l0 x3_1).f1)) ∧ w'.cell? ⟨(ad123.add ((x3_1).toNat * 3)).block, (ad123.add ((x3_1).toNat * 3)).off + 2, none⟩ = some (.string ((rd_T96 l0 x3_1).f2))) (ds := []) #[zF,zF,zF,zF,zF,zF,zF,zF,zF,zF,zF,zF,zF,zF,zF,zF,zF,zF,zF,zF,zF,zF,zF,zF,zF,zF] (by kernel_rfl) rfl rfl ⟨(blk_cell BK127.out 0).trans rfl, (blk_cell BK127.out 1).trans rfl, ((HB.out.cell (zL w _ hw128_0)).trans hw128_0), ((HB.out.cell (zL w _ hw128_1)).trans hw128_1), ((HB.out.cell (zL w _ hw128_2)).trans hw128_2)⟩ (fun hHeld => ?_); refine with_tabW spec_StoreFault.tab9 spec_StoreFault.bits9 (fun HT_ HW_ => ?_)
         generalize w38.drew = w39 at BK127 HB hx128_0 hx128_1 hx128_2 hHeld ⊢
         refine pure_ (i := 0) (N := some 30) (v := ?_) (a' := ?_) #[zB,zF,zF,zF,zF,zF,zF,zF,zF,zF,zF,zF,zF,zF,zF,zF,zF,zF,zF,zF,zF,zF,zF,zF,zF,zF] rfl rfl (any_of HT_.out (by kernel_rfl)) (fun _ _ _ h => h) (Or.inl ⟨by rfl, ?_⟩) ?_ ?_
         rotate_left
         ·
          intro w'
          go_simp
          with_reducible rfl
         rotate_left
         ·
          simp only [Act.put, zS, zT, zU, i64_w, i32_w]
          rfl
         refine pure_ (i := 2) (N := some 32) (v := ?_) (a' := ?_) #[zB,zF,zB,zF,zF,zF,zF,zF,zF,zF,zF,zF,zF,zF,zF,zF,zF,zF,zF,zF,zF,zF,zF,zF,zF,zF] rfl rfl (any_of HT_.out (by kernel_rfl)) (fun _ _ _ h => h) (Or.inl ⟨by rfl, ?_⟩) ?_ ?_
         rotate_left
         ·
          intro w'
          go_simp
          with_reducible rfl
         rotate_left
         ·
          simp only [Act.put, zS, zT, zU, i64_w, i32_w]
          rfl
         refine pure_ (i := 3) (N := some 33) (v := ?_) (a' := ?_) #[zB,zF,zB,zB,zF,zF,zF,zF,zF,zF,zF,zF,zF,zF,zF,zF,zF,zF,zF,zF,zF,zF,zF,zF,zF,zF] rfl rfl (any_of HT_.out (by kernel_rfl)) (fun _ _ _ h => h) (Or.inl ⟨by rfl, ?_⟩) ?_ ?_
         rotate_left
         ·
          intro w'
          go_simp
          with_reducible rfl
         rotate_left
         ·
          simp only [Act.put, zS, zT, zU, i64_w, i32_w]
          rfl
         refine pure_ (i := 4) (N := some 34) (v := ?_) (a' := ?_) #[zB,zF,zB,zB,zB,zF,zF,zF,zF,zF,zF,zF,zF,zF,zF,zF,zF,zF,zF,zF,zF,zF,zF,zF,zF,zF] rfl rfl (any_of HT_.out (by kernel_rfl)) (fun _ _ _ h => h) (Or.inl ⟨by rfl, ?_⟩) ?_ ?_
         rotate_left
         ·
          intro w'
          go_simp
          with_reducible rfl
         rotate_left
         ·
          simp only [Act.put, zS, zT, zU, i64_w, i32_w]
          rfl
         refine pure_ (i := 5) (N := some 35) (v := ?_) (a' := ?_) #[zB,zF,zB,zB,zB,zB,zF,zF,zF,zF,zF,zF,zF,zF,zF,zF,zF,zF,zF,zF,zF,zF,zF,zF,zF,zF] rfl rfl (any_of HT_.out (by kernel_rfl)) (fun _ _ _ h => h) (Or.inl ⟨by rfl, ?_⟩) ?_ ?_
         rotate_left
         ·
          intro w'
          go_simp
          with_reducible rfl
         rotate_left
         ·
          simp only [Act.put, zS, zT, zU, i64_w, i32_w]
          rfl
         refine take_ (i := 1) (N := some 31) (v := ?_) (a' := ?_) #[zB,zB,zB,zB,zB,zB,zF,zF,zF,zF,zF,zF,zF,zF,zF,zF,zF,zF,zF,zF,zF,zF,zF,zF,zF,zF] rfl rfl (take_ofW HT_.out HW_.out (by kernel_rfl)) (fun _ _ _ h => h) (Or.inl ⟨by rfl, ?_⟩) hHeld ?_ ?_
         rotate_left
         ·
          rintro w' ⟨s0, s1, s2, s3, s4⟩
          go_simp
          with_reducible rfl
         rotate_left
         ·
          simp only [Act.put, zS, zT, zU, i64_w, i32_w]
          rfl
         refine take_ (i := 6) (N := some 36) (v := ?_) (a' := ?_) #[zB,zB,zB,zB,zB,zB,zB,zF,zF,zF,zF,zF,zF,zF,zF,zF,zF,zF,zF,zF,zF,zF,zF,zF,zF,zF] rfl rfl (take_ofW HT_.out HW_.out (by kernel_rfl)) (fun _ _ _ h => h) (Or.inl ⟨by rfl, ?_⟩) hHeld ?_ ?_
         rotate_left
         ·
          rintro w' ⟨s0, s1, s2, s3, s4⟩
          go_simp
          with_reducible rfl
         rotate_left
         ·
          simp only [Act.put, zS, zT, zU, i64_w, i32_w]
          rfl
         refine pure_ (i := 7) (N := some 37) (v := ?_) (a' := ?_) #[zB,zB,zB,zB,zB,zB,zB,zB,zF,zF,zF,zF,zF,zF,zF,zF,zF,zF,zF,zF,zF,zF,zF,zF,zF,zF] rfl rfl (any_of HT_.out (by kernel_rfl)) (fun _ _ _ h => h) (Or.inl ⟨by rfl, ?_⟩) ?_ ?_
         rotate_left
         ·
          intro w'
          go_simp
          with_reducible rfl
         rotate_left
         ·
          simp only [Act.put, zS, zT, zU, i64_w, i32_w]
          rfl
         refine pure_ (i := 8) (N := some 38) (v := ?_) (a' := ?_) #[zB,zB,zB,zB,zB,zB,zB,zB,zB,zF,zF,zF,zF,zF,zF,zF,zF,zF,zF,zF,zF,zF,zF,zF,zF,zF] rfl rfl (any_of HT_.out (by kernel_rfl)) (fun _ _ _ h => h) (Or.inl ⟨by rfl, ?_⟩) ?_ ?_
         rotate_left
         ·
          intro w'
          go_simp
          with_reducible rfl
         rotate_left
         ·
          simp only [Act.put, zS, zT, zU, i64_w, i32_w]
          rfl
         refine pure_ (i := 9) (N := some 39) (v := ?_) (a' := ?_) #[zB,zB,zB,zB,zB,zB,zB,zB,zB,zB,zF,zF,zF,zF,zF,zF,zF,zF,zF,zF,zF,zF,zF,zF,zF,zF] rfl rfl (any_of HT_.out (by kernel_rfl)) (fun _ _ _ h => h) (Or.inl ⟨by rfl, ?_⟩) ?_ ?_
         rotate_left
         ·
          intro w'
          go_simp
          with_reducible rfl
         rotate_left
         ·
          simp only [Act.put, zS, zT, zU, i64_w, i32_w]
          rfl
         refine pure_ (i := 10) (N := some 40) (v := ?_) (a' := ?_) #[zB,zB,zB,zB,zB,zB,zB,zB,zB,zB,zB,zF,zF,zF,zF,zF,zF,zF,zF,zF,zF,zF,zF,zF,zF,zF] rfl rfl (any_of HT_.out (by kernel_rfl)) (fun _ _ _ h => h) (Or.inl ⟨by rfl, ?_⟩) ?_ ?_
         rotate_left
         ·
          intro w'
          go_simp
          with_reducible rfl
         rotate_left
         ·
          simp only [Act.put, zS, zT, zU, i64_w, i32_w]
          rfl
         refine pure_ (i := 11) (N := some 41) (v := ?_) (a' := ?_) #[zB,zB,zB,zB,zB,zB,zB,zB,zB,zB,zB,zB,zF,zF,zF,zF,zF,zF,zF,zF,zF,zF,zF,zF,zF,zF] rfl rfl (any_of HT_.out (by kernel_rfl)) (fun _ _ _ h => h) (Or.inl ⟨by rfl, ?_⟩) ?_ ?_
         rotate_left
         ·
          intro w'
          go_simp
          with_reducible rfl
         rotate_left
         ·
          simp only [Act.put, zS, zT, zU, i64_w, i32_w]
          rfl
         refine pure_ (i := 12) (N := some 42) (v := undef) (a' := ?_) #[zB,zB,zB,zB,zB,zB,zB,zB,zB,zB,zB,zB,zB,zF,zF,zF,zF,zF,zF,zF,zF,zF,zF,zF,zF,zF] rfl rfl (any_of HT_.out (by kernel_rfl)) (fun _ _ _ h => h) (Or.inr ⟨by rfl, rfl⟩) ?_ ?_
         rotate_left
         ·
          simp only [Act.put, zS, zT, zU, i64_w, i32_w]
          rfl
         refine pure_ (i := 13) (N := some 43) (v := undef) (a' := ?_) #[zB,zB,zB,zB,zB,zB,zB,zB,zB,zB,zB,zB,zB,zB,zF,zF,zF,zF,zF,zF,zF,zF,zF,zF,zF,zF] rfl rfl (any_of HT_.out (by kernel_rfl)) (fun _ _ _ h => h) (Or.inr ⟨by rfl, rfl⟩) ?_ ?_
         rotate_left
         ·
          simp only [Act.put, zS, zT, zU, i64_w, i32_w]
          rfl
         refine pure_ (i := 14) (N := some 44) (v := undef) (a' := ?_) #[zB,zB,zB,zB,zB,zB,zB,zB,zB,zB,zB,zB,zB,zB,zB,zF,zF,zF,zF,zF,zF,zF,zF,zF,zF,zF] rfl rfl (any_of HT_.out (by kernel_rfl)) (fun _ _ _ h => h) (Or.inr ⟨by rfl, rfl⟩) ?_ ?_
         rotate_left
         ·
          simp only [Act.put, zS, zT, zU, i64_w, i32_w]
          rfl
         refine pure_ (i := 15) (N := some 45) (v := undef) (a' := ?_) #[zB,zB,zB,zB,zB,zB,zB,zB,zB,zB,zB,zB,zB,zB,zB,zB,zF,zF,zF,zF,zF,zF,zF,zF,zF,zF] rfl rfl (any_of HT_.out (by kernel_rfl)) (fun _ _ _ h => h) (Or.inr ⟨by rfl, rfl⟩) ?_ ?_
         rotate_left
         ·
          simp only [Act.put, zS, zT, zU, i64_w, i32_w]
          rfl
         refine pure_ (i := 16) (N := some 46) (v := undef) (a' := ?_) #[zB,zB,zB,zB,zB,zB,zB,zB,zB,zB,zB,zB,zB,zB,zB,zB,zB,zF,zF,zF,zF,zF,zF,zF,zF,zF] rfl rfl (any_of HT_.out (by kernel_rfl)) (fun _ _ _ h => h) (Or.inr ⟨by rfl, rfl⟩) ?_ ?_
         rotate_left
         ·
          simp only [Act.put, zS, zT, zU, i64_w, i32_w]
          rfl
         refine pure_ (i := 17) (N := some 47) (v := undef) (a' := ?_) #[zB,zB,zB,zB,zB,zB,zB,zB,zB,zB,zB,zB,zB,zB,zB,zB,zB,zB,zF,zF,zF,zF,zF,zF,zF,zF] rfl rfl (any_of HT_.out (by kernel_rfl)) (fun _ _ _ h => h) (Or.inr ⟨by rfl, rfl⟩) ?_ ?_
         rotate_left
         ·
          simp only [Act.put, zS, zT, zU, i64_w, i32_w]
          rfl
         refine pure_ (i := 18) (N := some 48) (v := undef) (a' := ?_) #[zB,zB,zB,zB,zB,zB,zB,zB,zB,zB,zB,zB,zB,zB,zB,zB,zB,zB,zB,zF,zF,zF,zF,zF,zF,zF] rfl rfl (any_of HT_.out (by kernel_rfl)) (fun _ _ _ h => h) (Or.inr ⟨by rfl, rfl⟩) ?_ ?_
         rotate_left
         ·
          simp only [Act.put, zS, zT, zU, i64_w, i32_w]
          rfl
         refine pure_ (i := 19) (N := some 49) (v := undef) (a' := ?_) #[zB,zB,zB,zB,zB,zB,zB,zB,zB,zB,zB,zB,zB,zB,zB,zB,zB,zB,zB,zB,zF,zF,zF,zF,zF,zF] rfl rfl (any_of HT_.out (by kernel_rfl)) (fun _ _ _ h => h) (Or.inr ⟨by rfl, rfl⟩) ?_ ?_
         rotate_left
         ·
          simp only [Act.put, zS, zT, zU, i64_w, i32_w]
          rfl
         refine pure_ (i := 20) (N := some 50) (v := undef) (a' := ?_) #[zB,zB,zB,zB,zB,zB,zB,zB,zB,zB,zB,zB,zB,zB,zB,zB,zB,zB,zB,zB,zB,zF,zF,zF,zF,zF] rfl rfl (any_of HT_.out (by kernel_rfl)) (fun _ _ _ h => h) (Or.inr ⟨by rfl, rfl⟩) ?_ ?_
         rotate_left
         ·
          simp only [Act.put, zS, zT, zU, i64_w, i32_w]
          rfl
         refine pure_ (i := 21) (N := some 51) (v := undef) (a' := ?_) #[zB,zB,zB,zB,zB,zB,zB,zB,zB,zB,zB,zB,zB,zB,zB,zB,zB,zB,zB,zB,zB,zB,zF,zF,zF,zF] rfl rfl (any_of HT_.out (by kernel_rfl)) (fun _ _ _ h => h) (Or.inr ⟨by rfl, rfl⟩) ?_ ?_
         rotate_left
         ·
          simp only [Act.put, zS, zT, zU, i64_w, i32_w]
          rfl
         refine pure_ (i := 22) (N := some 52) (v := undef) (a' := ?_) #[zB,zB,zB,zB,zB,zB,zB,zB,zB,zB,zB,zB,zB,zB,zB,zB,zB,zB,zB,zB,zB,zB,zB,zF,zF,zF] rfl rfl (any_of HT_.out (by kernel_rfl)) (fun _ _ _ h => h) (Or.inr ⟨by rfl, rfl⟩) ?_ ?_
         rotate_left
         ·
          simp only [Act.put, zS, zT, zU, i64_w, i32_w]
          rfl
         refine pure_ (i := 23) (N := some 53) (v := undef) (a' := ?_) #[zB,zB,zB,zB,zB,zB,zB,zB,zB,zB,zB,zB,zB,zB,zB,zB,zB,zB,zB,zB,zB,zB,zB,zB,zF,zF] rfl rfl (any_of HT_.out (by kernel_rfl)) (fun _ _ _ h => h) (Or.inr ⟨by rfl, rfl⟩) ?_ ?_
         rotate_left
         ·
          simp only [Act.put, zS, zT, zU, i64_w, i32_w]
          rfl
         refine pure_ (i := 24) (N := some 54) (v := ?_) (a' := ?_) #[zB,zB,zB,zB,zB,zB,zB,zB,zB,zB,zB,zB,zB,zB,zB,zB,zB,zB,zB,zB,zB,zB,zB,zB,zB,zF] rfl rfl (any_of HT_.out (by kernel_rfl)) (fun _ _ _ h => h) (Or.inl ⟨by rfl, ?_⟩) ?_ ?_
         rotate_left
         ·
          intro w'
          go_simp
          with_reducible rfl
         rotate_left
         ·
          simp only [Act.put, zS, zT, zU, i64_w, i32_w]
          rfl
         refine pure_ (i := 25) (N := some 55) (v := ?_) (a' := ?_) #[zB,zB,zB,zB,zB,zB,zB,zB,zB,zB,zB,zB,zB,zB,zB,zB,zB,zB,zB,zB,zB,zB,zB,zB,zB,zB] rfl rfl (any_of HT_.out (by kernel_rfl)) (fun _ _ _ h => h) (Or.inl ⟨by rfl, ?_⟩) ?_ ?_
         rotate_left
         ·
          intro w'
          go_simp
          with_reducible rfl
         rotate_left
         ·
          simp only [Act.put, zS, zT, zU, i64_w, i32_w]
          rfl
         refine done_ (done_of HT_.out (by kernel_rfl)) ?_
         try go_wp2
         go_roundg k1
         case measure => have := HK1.out; omega
         case rel => exact ⟨(wrap64 (x3_1 + 1)), (by first | rfl | (simp; done) | (simp [*]; done)), H', ⟨by have := HK1.out; omega⟩, ⟨by repeat (first | (with_reducible first | exact HB.out | apply zA | apply zN | apply zD | refine below_set ?_ GE127.out) | exact HB.out)⟩⟩
       ·
        rw [if_neg c7] at H
        have c7b0 : (t126.toList == ((rd_T96 l0 x3_1).f0).toList) = false := beq_eq_false_iff_ne.mpr c7
        have c7b1 : (t126.toList != ((rd_T96 l0 x3_1).f0).toList) = true := bne_iff_ne.mpr c7
        obtain rfl := Option.some.inj H
        try go_wp2
        have n0_ := zK (zD HB.out)
        clear HB
        have HB := n0_
        clear n0_
        have p123 : 0 ≤ (x3_1 : Int) := zX (by first | (with_reducible assumption) | assumption)
        have q123 : x3_1 < (l0.length : Int) := zX (by first | (with_reducible assumption) | assumption)
        obtain ⟨ad123, e123, hx123_0, hx123_1, hx123_2⟩ := at_T96 HR0.out x3_1 p123 q123
        have hw123_2 := hx123_2
        have hw123_1 := hx123_1
        have hw123_0 := hx123_0
        cases e123
        replace hx123_0 := (HB.out.cell (zL w _ hx123_0)).trans hx123_0
        replace hx123_1 := (HB.out.cell (zL w _ hx123_1)).trans hx123_1
        replace hx123_2 := (HB.out.cell (zL w _ hx123_2)).trans hx123_2
        replace p123 := eq_true p123
        replace q123 := eq_true q123
        have p124 : 0 ≤ (x3_1 : Int) := zX (by first | (with_reducible assumption) | assumption)
        have q124 : x3_1 < (l0.length : Int) := zX (by first | (with_reducible assumption) | assumption)
        obtain ⟨ad124, e124, hx124_0, hx124_1, hx124_2⟩ := at_T96 HR0.out x3_1 p124 q124
        have hw124_2 := hx124_2
        have hw124_1 := hx124_1
        have hw124_0 := hx124_0
        obtain rfl : ad123 = ad124 := (by injection e124)
        replace hx124_0 := (HB.out.cell (zL w _ hx124_0)).trans hx124_0
        replace hx124_1 := (HB.out.cell (zL w _ hx124_1)).trans hx124_1
        replace hx124_2 := (HB.out.cell (zL w _ hx124_2)).trans hx124_2
        replace p124 := eq_true p124
        replace q124 := eq_true q124
        refine start_ (n := 13) (S := fun w' => w'.cell? (ad123.add ((x3_1).toNat * 3)) = some (.string ((rd_T96 l0 x3_1).f0)) ∧ w'.cell? ⟨(ad123.add ((x3_1).toNat * 3)).block, (ad123.add ((x3_1).toNat * 3)).off + 1, none⟩ = some (.int .i64 ((rd_T96 l0 x3_1).f1)) ∧ w'.cell? ⟨(ad123.add ((x3_1).toNat * 3)).block, (ad123.add ((x3_1).toNat * 3)).off + 2, none⟩ = some (.string ((rd_T96 l0 x3_1).f2)) ∧ w'.cell? (ad123.add ((x3_1).toNat * 3)) = some (.string ((rd_T96 l0 x3_1).f0)) ∧ w'.cell? ⟨(ad123.add ((x3_1).toNat * 3)).block, (ad123.add ((x3_1).toNat * 3)).off + 1, none⟩ = some (.int .i64 ((rd_T96 l0 x3_1).f1)) ∧ w'.cell? ⟨(ad123.add ((x3_1).toNat * 3)).block, (ad123.add ((x3_1).toNat * 3)).off + 2, none⟩ = some (.string ((rd_T96 l0 x3_1).f2))) (ds := []) #[zF,zF,zF,zF,zF,zF,zF,zF,zF,zF,zF,zF,zF] (by kernel_rfl) rfl rfl ⟨((HB.out.cell (zL w _ hw123_0)).trans hw123_0), ((HB.out.cell (zL w _ hw123_1)).trans hw123_1), ((HB.out.cell (zL w _ hw123_2)).trans hw123_2), ((HB.out.cell (zL w _ hw124_0)).trans hw124_0), ((HB.out.cell (zL w _ hw124_1)).trans hw124_1), ((HB.out.cell (zL w _ hw124_2)).trans hw124_2)⟩ (fun hHeld => ?_); refine with_tabW spec_StoreFault.tab6 spec_StoreFault.bits6 (fun HT_ HW_ => ?_)
        generalize wr.drew = w40 at HB hx123_0 hx123_1 hx123_2 hx124_0 hx124_1 hx124_2 hHeld ⊢
        refine pure_ (i := 0) (N := some 14) (v := ?_) (a' := ?_) #[zB,zF,zF,zF,zF,zF,zF,zF,zF,zF,zF,zF,zF] rfl rfl (any_of HT_.out (by kernel_rfl)) (fun _ _ _ h => h) (Or.inl ⟨by rfl, ?_⟩) ?_ ?_
        rotate_left
        ·
         intro w'
         go_simp
         with_reducible rfl
        rotate_left
        ·
         simp only [Act.put, zS, zT, zU, i64_w, i32_w]
         rfl
        refine pure_ (i := 1) (N := some 15) (v := ?_) (a' := ?_) #[zB,zB,zF,zF,zF,zF,zF,zF,zF,zF,zF,zF,zF] rfl rfl (any_of HT_.out (by kernel_rfl)) (fun _ _ _ h => h) (Or.inl ⟨by rfl, ?_⟩) ?_ ?_
        rotate_left
        ·
         intro w'
         go_simp
         with_reducible rfl
        rotate_left
        ·
         simp only [Act.put, zS, zT, zU, i64_w, i32_w]
         rfl
        refine pure_ (i := 2) (N := some 16) (v := ?_) (a' := ?_) #[zB,zB,zB,zF,zF,zF,zF,zF,zF,zF,zF,zF,zF] rfl rfl (any_of HT_.out (by kernel_rfl)) (fun _ _ _ h => h) (Or.inl ⟨by rfl, ?_⟩) ?_ ?_
        rotate_left
        ·
         intro w'
         go_simp
         with_reducible rfl
        rotate_left
        ·
         simp only [Act.put, zS, zT, zU, i64_w, i32_w]
         rfl
        refine pure_ (i := 3) (N := some 17) (v := ?_) (a' := ?_) #[zB,zB,zB,zB,zF,zF,zF,zF,zF,zF,zF,zF,zF] rfl rfl (any_of HT_.out (by kernel_rfl)) (fun _ _ _ h => h) (Or.inl ⟨by rfl, ?_⟩) ?_ ?_
        rotate_left
        ·
         intro w'
         go_simp
         with_reducible rfl
        rotate_left
        ·
         simp only [Act.put, zS, zT, zU, i64_w, i32_w]
         rfl
        refine pure_ (i := 5) (N := some 19) (v := ?_) (a' := ?_) #[zB,zB,zB,zB,zF,zB,zF,zF,zF,zF,zF,zF,zF] rfl rfl (any_of HT_.out (by kernel_rfl)) (fun _ _ _ h => h) (Or.inl ⟨by rfl, ?_⟩) ?_ ?_
        rotate_left
        ·
         intro w'
         go_simp
         with_reducible rfl
        rotate_left
        ·
         simp only [Act.put, zS, zT, zU, i64_w, i32_w]
         rfl
        refine pure_ (i := 6) (N := some 20) (v := ?_) (a' := ?_) #[zB,zB,zB,zB,zF,zB,zB,zF,zF,zF,zF,zF,zF] rfl rfl (any_of HT_.out (by kernel_rfl)) (fun _ _ _ h => h) (Or.inl ⟨by rfl, ?_⟩) ?_ ?_
        rotate_left
        ·
         intro w'
         go_simp
         with_reducible rfl
        rotate_left
        ·
         simp only [Act.put, zS, zT, zU, i64_w, i32_w]
         rfl
        refine pure_ (i := 7) (N := some 21) (v := ?_) (a' := ?_) #[zB,zB,zB,zB,zF,zB,zB,zB,zF,zF,zF,zF,zF] rfl rfl (any_of HT_.out (by kernel_rfl)) (fun _ _ _ h => h) (Or.inl ⟨by rfl, ?_⟩) ?_ ?_
        rotate_left
        ·
         intro w'
         go_simp
         with_reducible rfl
        rotate_left
        ·
         simp only [Act.put, zS, zT, zU, i64_w, i32_w]
         rfl
        refine pure_ (i := 8) (N := some 22) (v := ?_) (a' := ?_) #[zB,zB,zB,zB,zF,zB,zB,zB,zB,zF,zF,zF,zF] rfl rfl (any_of HT_.out (by kernel_rfl)) (fun _ _ _ h => h) (Or.inl ⟨by rfl, ?_⟩) ?_ ?_
        rotate_left
        ·
         intro w'
         go_simp
         with_reducible rfl
        rotate_left
        ·
         simp only [Act.put, zS, zT, zU, i64_w, i32_w]
         rfl
        refine take_ (i := 4) (N := some 18) (v := ?_) (a' := ?_) #[zB,zB,zB,zB,zB,zB,zB,zB,zB,zF,zF,zF,zF] rfl rfl (take_ofW HT_.out HW_.out (by kernel_rfl)) (fun _ _ _ h => h) (Or.inl ⟨by rfl, ?_⟩) hHeld ?_ ?_
        rotate_left
        ·
         rintro w' ⟨s0, s1, s2, s3, s4, s5⟩
         go_simp
         with_reducible rfl
        rotate_left
        ·
         simp only [Act.put, zS, zT, zU, i64_w, i32_w]
         rfl
        refine take_ (i := 9) (N := some 23) (v := ?_) (a' := ?_) #[zB,zB,zB,zB,zB,zB,zB,zB,zB,zB,zF,zF,zF] rfl rfl (take_ofW HT_.out HW_.out (by kernel_rfl)) (fun _ _ _ h => h) (Or.inl ⟨by rfl, ?_⟩) hHeld ?_ ?_
        rotate_left
        ·
         rintro w' ⟨s0, s1, s2, s3, s4, s5⟩
         go_simp
         with_reducible rfl
        rotate_left
        ·
         simp only [Act.put, zS, zT, zU, i64_w, i32_w]
         rfl
        refine join_ (σ := Nat) 1 #[zB,zB,zB,zB,zB,zB,zB,zB,zB,zB,zB,zB,zF] (fun s_ => [(24, .agg #[.int .i64 t125, .string t126]), (4, .pointer (some ⟨s_, 0, none⟩))]) (fun s_ w' => (w'.cell? (ad123.add ((x3_1).toNat * 3)) = some (.string ((rd_T96 l0 x3_1).f0)) ∧ w'.cell? ⟨(ad123.add ((x3_1).toNat * 3)).block, (ad123.add ((x3_1).toNat * 3)).off + 1, none⟩ = some (.int .i64 ((rd_T96 l0 x3_1).f1)) ∧ w'.cell? ⟨(ad123.add ((x3_1).toNat * 3)).block, (ad123.add ((x3_1).toNat * 3)).off + 2, none⟩ = some (.string ((rd_T96 l0 x3_1).f2)) ∧ w'.cell? (ad123.add ((x3_1).toNat * 3)) = some (.string ((rd_T96 l0 x3_1).f0)) ∧ w'.cell? ⟨(ad123.add ((x3_1).toNat * 3)).block, (ad123.add ((x3_1).toNat * 3)).off + 1, none⟩ = some (.int .i64 ((rd_T96 l0 x3_1).f1)) ∧ w'.cell? ⟨(ad123.add ((x3_1).toNat * 3)).block, (ad123.add ((x3_1).toNat * 3)).off + 2, none⟩ = some (.string ((rd_T96 l0 x3_1).f2))) ∧ (w'.heap[s_]? = some (.cells #[.int .i64 0, .string (⟨#[]⟩ : ByteArray)] 36 (0, 0))) ∧ (w.heap.size ≤ s_) ∧ (w.heap.size ≤ s_) ∧ (Below w.heap.size w w')) ?_ ?_
        rotate_left
        ·
         intro hCont
         refine two_ (i := 10) (j := 11) (Ni := some 24) (Nj := some 4) #[zB,zB,zB,zB,zB,zB,zB,zB,zB,zB,zB,zF,zF] #[zB,zB,zB,zB,zB,zB,zB,zB,zB,zB,zF,zB,zF] rfl rfl rfl rfl (two_of HT_.out (by kernel_rfl)) (by decide) (by decide) (fun K hK => ?_) (fun K hK => ?_)
         ·
          skip
          refine goes_ Tryd.func67 (by kernel_rfl) rfl #[.int .i64 ((rd_T96 l0 x3_1).f1), .string ((rd_T96 l0 x3_1).f2)] (by rfl) rfl rfl (by (try simp only [List.map_toArray, List.map_cons, List.map_nil]); first | done | rfl | (simp only [List.length_drop, List.length_take]; rfl)) ?_
          with_reducible refine (spec_IdOf.calls k1 ((rd_T96 l0 x3_1).f1) ((rd_T96 l0 x3_1).f2) t125 t126 _ A5.out).mono ?_
          rintro e w41 ⟨rfl, hb⟩
          refine ⟨_, rfl, ?_⟩
          have n0_ := zK (below_step (by repeat (first | (with_reducible first | exact HB.out | apply zA | apply zN | apply zD) | exact HB.out)) hb)
          clear HB
          have HB := n0_
          clear n0_
          (try clear hb)
          (try clear hb2)
          (try clear hk)
          (try clear hi)
          refine hK.out _ _ ⟨((HB.out.cell (zL w _ hw123_0)).trans hw123_0), ((HB.out.cell (zL w _ hw123_1)).trans hw123_1), ((HB.out.cell (zL w _ hw123_2)).trans hw123_2), ((HB.out.cell (zL w _ hw124_0)).trans hw124_0), ((HB.out.cell (zL w _ hw124_1)).trans hw124_1), ((HB.out.cell (zL w _ hw124_2)).trans hw124_2)⟩ (fun hHeld => ?_)
          clear hK K
          refine norm_ (a' := ?_) ?_ ?_
          rotate_left
          ·
           show Act.put _ (some 24) _ = _
           simp only [Act.put, zS, zT, zU, i64_w, i32_w]
           rfl
          refine one_ (i := 11) (N := some 4) #[zB,zB,zB,zB,zB,zB,zB,zB,zB,zB,zB,zB,zF] rfl rfl (one_of HT_.out (by kernel_rfl)) (by decide) (fun K hK => ?_)
          refine box_step ?hg (N := 4) ?hd (cs := #[.int .i64 0, .string (⟨#[]⟩ : ByteArray)]) (t := 36) ?hr ?_; (case hd => rfl); (case hg => rfl); (case hr => first | (go_simp; done) | (go_simp; rfl))
          intro gb127 hg w42 hbox hb
          have n0_ := zK (below_step (by repeat (first | (with_reducible first | exact HB.out | apply zA | apply zN | apply zD) | exact HB.out)) hb)
          have n1_ := zK (hbox)
          have n2_ := zK ((by rw [hg]; exact (below_size (by repeat (first | (with_reducible first | exact HB.out | apply zA | apply zN | apply zD) | exact HB.out))) : w.heap.size ≤ gb127))
          have n3_ := zK ((by rw [hg]; exact (below_size (by repeat (first | (with_reducible first | exact HB.out | apply zA | apply zN | apply zD) | exact HB.out))) : w.heap.size ≤ gb127))
          clear HB
          have HB := n0_
          have BK127 := n1_
          have GW127 := n2_
          have GE127 := n3_
          clear n0_ n1_ n2_ n3_
          clear hb hbox hg
          refine hK.out _ _ ⟨((HB.out.cell (zL w _ hw123_0)).trans hw123_0), ((HB.out.cell (zL w _ hw123_1)).trans hw123_1), ((HB.out.cell (zL w _ hw123_2)).trans hw123_2), ((HB.out.cell (zL w _ hw124_0)).trans hw124_0), ((HB.out.cell (zL w _ hw124_1)).trans hw124_1), ((HB.out.cell (zL w _ hw124_2)).trans hw124_2)⟩ (fun hHeld => ?_)
          clear hK K
          refine norm_ (a' := ?_) ?_ ?_
          rotate_left
          ·
           show Act.put _ (some 4) _ = _
           simp only [Act.put, zS, zT, zU, i64_w, i32_w]
           rfl
          exact norm_ (by simp only [putAll, Act.put, zS, zT, zU]) (hCont (gb127) _ ⟨hHeld, (by (with_reducible repeat (first | refine zM ?_ _ | refine zP ?_ | refine zQ ?_ _)); exact BK127.out), GW127.out, GE127.out, (by repeat (first | (with_reducible first | exact HB.out | apply zA | apply zN | apply zD | refine below_set ?_ GE127.out) | exact HB.out))⟩)
         ·
          skip
          refine box_step ?hg (N := 4) ?hd (cs := #[.int .i64 0, .string (⟨#[]⟩ : ByteArray)]) (t := 36) ?hr ?_; (case hd => rfl); (case hg => rfl); (case hr => first | (go_simp; done) | (go_simp; rfl))
          intro gb127 hg w41 hbox hb
          have n0_ := zK (below_step (by repeat (first | (with_reducible first | exact HB.out | apply zA | apply zN | apply zD) | exact HB.out)) hb)
          have n1_ := zK (hbox)
          have n2_ := zK ((by rw [hg]; exact (below_size (by repeat (first | (with_reducible first | exact HB.out | apply zA | apply zN | apply zD) | exact HB.out))) : w.heap.size ≤ gb127))
          have n3_ := zK ((by rw [hg]; exact (below_size (by repeat (first | (with_reducible first | exact HB.out | apply zA | apply zN | apply zD) | exact HB.out))) : w.heap.size ≤ gb127))
          clear HB
          have HB := n0_
          have BK127 := n1_
          have GW127 := n2_
          have GE127 := n3_
          clear n0_ n1_ n2_ n3_
          clear hb hbox hg
          refine hK.out _ _ ⟨((HB.out.cell (zL w _ hw123_0)).trans hw123_0), ((HB.out.cell (zL w _ hw123_1)).trans hw123_1), ((HB.out.cell (zL w _ hw123_2)).trans hw123_2), ((HB.out.cell (zL w _ hw124_0)).trans hw124_0), ((HB.out.cell (zL w _ hw124_1)).trans hw124_1), ((HB.out.cell (zL w _ hw124_2)).trans hw124_2)⟩ (fun hHeld => ?_)
          clear hK K
          refine norm_ (a' := ?_) ?_ ?_
          rotate_left
          ·
           show Act.put _ (some 4) _ = _
           simp only [Act.put, zS, zT, zU, i64_w, i32_w]
           rfl
          refine one_ (i := 10) (N := some 24) #[zB,zB,zB,zB,zB,zB,zB,zB,zB,zB,zB,zB,zF] rfl rfl (one_of HT_.out (by kernel_rfl)) (by decide) (fun K hK => ?_)
          refine goes_ Tryd.func67 (by kernel_rfl) rfl #[.int .i64 ((rd_T96 l0 x3_1).f1), .string ((rd_T96 l0 x3_1).f2)] (by rfl) rfl rfl (by (try simp only [List.map_toArray, List.map_cons, List.map_nil]); first | done | rfl | (simp only [List.length_drop, List.length_take]; rfl)) ?_
          with_reducible refine (spec_IdOf.calls k1 ((rd_T96 l0 x3_1).f1) ((rd_T96 l0 x3_1).f2) t125 t126 _ A5.out).mono ?_
          rintro e w42 ⟨rfl, hb⟩
          refine ⟨_, rfl, ?_⟩
          have n0_ := zK (blk_below (g := gb127) (o := .cells #[.int .i64 0, .string (⟨#[]⟩ : ByteArray)] 36 (0, 0)) (by (with_reducible repeat (first | refine zM ?_ _ | refine zP ?_ | refine zQ ?_ _)); exact BK127.out) hb)
          have n1_ := zK (below_step (by repeat (first | (with_reducible first | exact HB.out | apply zA | apply zN | apply zD | refine below_set ?_ GE127.out) | exact HB.out)) hb)
          clear BK127
          clear HB
          have BK127 := n0_
          have HB := n1_
          clear n0_ n1_
          (try clear hb)
          (try clear hb2)
          (try clear hk)
          (try clear hi)
          refine hK.out _ _ ⟨((HB.out.cell (zL w _ hw123_0)).trans hw123_0), ((HB.out.cell (zL w _ hw123_1)).trans hw123_1), ((HB.out.cell (zL w _ hw123_2)).trans hw123_2), ((HB.out.cell (zL w _ hw124_0)).trans hw124_0), ((HB.out.cell (zL w _ hw124_1)).trans hw124_1), ((HB.out.cell (zL w _ hw124_2)).trans hw124_2)⟩ (fun hHeld => ?_)
          clear hK K
          refine norm_ (a' := ?_) ?_ ?_
          rotate_left
          ·
           show Act.put _ (some 24) _ = _
           simp only [Act.put, zS, zT, zU, i64_w, i32_w]
           rfl
          exact norm_ (by simp only [putAll, Act.put, zS, zT, zU]) (hCont (gb127) _ ⟨hHeld, (by (with_reducible repeat (first | refine zM ?_ _ | refine zP ?_ | refine zQ ?_ _)); exact BK127.out), GW127.out, GE127.out, (by repeat (first | (with_reducible first | exact HB.out | apply zA | apply zN | apply zD | refine below_set ?_ GE127.out) | exact HB.out))⟩)
        rintro gb127 w43 ⟨hS_, h0_, h1_, h2_, h3_⟩
        have n0_ : Aside0 (w43.heap[gb127]? = some (.cells #[.int .i64 0, .string (⟨#[]⟩ : ByteArray)] 36 (0, 0))) := ⟨h0_⟩
        have n1_ : Aside0 (w.heap.size ≤ gb127) := ⟨h1_⟩
        have n2_ : Aside0 (w.heap.size ≤ gb127) := ⟨h2_⟩
        have n3_ : Aside0 (Below w.heap.size w w43) := ⟨h3_⟩
        clear HB
        clear h0_ h1_ h2_ h3_
        have BK127 := n0_
        have GW127 := n1_
        have GE127 := n2_
        have HB := n3_
        clear n0_ n1_ n2_ n3_
        have hHeld : w43.cell? (ad123.add ((x3_1).toNat * 3)) = some (.string ((rd_T96 l0 x3_1).f0)) ∧ w43.cell? ⟨(ad123.add ((x3_1).toNat * 3)).block, (ad123.add ((x3_1).toNat * 3)).off + 1, none⟩ = some (.int .i64 ((rd_T96 l0 x3_1).f1)) ∧ w43.cell? ⟨(ad123.add ((x3_1).toNat * 3)).block, (ad123.add ((x3_1).toNat * 3)).off + 2, none⟩ = some (.string ((rd_T96 l0 x3_1).f2)) ∧ w43.cell? (ad123.add ((x3_1).toNat * 3)) = some (.string ((rd_T96 l0 x3_1).f0)) ∧ w43.cell? ⟨(ad123.add ((x3_1).toNat * 3)).block, (ad123.add ((x3_1).toNat * 3)).off + 1, none⟩ = some (.int .i64 ((rd_T96 l0 x3_1).f1)) ∧ w43.cell? ⟨(ad123.add ((x3_1).toNat * 3)).block, (ad123.add ((x3_1).toNat * 3)).off + 2, none⟩ = some (.string ((rd_T96 l0 x3_1).f2)) := hS_
        refine norm_ (a' := ?_) ?_ ?_
        rotate_left
        ·
         simp only [putAll, Act.put, zS, zT, zU]
         rfl
        refine one_ (i := 12) (N := none) #[zB,zB,zB,zB,zB,zB,zB,zB,zB,zB,zB,zB,zB] rfl rfl (one_of HT_.out (by kernel_rfl)) (by decide) (fun K hK => ?_)
        have hs44 : w43.cell? ⟨gb127, 0, none⟩ = some (.int .i64 0) := (blk_cell BK127.out 0).trans rfl
        have hfs44 := blk_frozen BK127.out 0
        have hs45 : w43.cell? ⟨gb127, 1, none⟩ = some (.string (⟨#[]⟩ : ByteArray)) := (blk_cell BK127.out 1).trans rfl
        have hfs45 := blk_frozen BK127.out 1
        refine skip_ (w1 := ?_) (by rfl) rfl ?_ ?_
        rotate_left
        ·
         go_simp
         rfl
        refine hK.out _ _ ⟨((cell_far (p := ⟨gb127, _, none⟩) (by first | exact Nat.ne_of_lt (Nat.lt_of_lt_of_le (by have := zL _ _ hw123_0; first | rwa [add_block] at this | exact this) GW127.out) | (rw [add_block]; exact Nat.ne_of_lt (Nat.lt_of_lt_of_le (by have := zL _ _ hw123_0; first | rwa [add_block] at this | exact this) GW127.out)) | (show (Addr.add _ _).block ≠ _; rw [add_block]; exact Nat.ne_of_lt (Nat.lt_of_lt_of_le (by have := zL _ _ hw123_0; first | rwa [add_block] at this | exact this) GW127.out)) | (dsimp only; exact Nat.ne_of_lt (Nat.lt_of_lt_of_le (by have := zL _ _ hw123_0; first | rwa [add_block] at this | exact this) GW127.out))) _).trans (((cell_far (p := ⟨gb127, _, none⟩) (by first | exact Nat.ne_of_lt (Nat.lt_of_lt_of_le (by have := zL _ _ hw123_0; first | rwa [add_block] at this | exact this) GW127.out) | (rw [add_block]; exact Nat.ne_of_lt (Nat.lt_of_lt_of_le (by have := zL _ _ hw123_0; first | rwa [add_block] at this | exact this) GW127.out)) | (show (Addr.add _ _).block ≠ _; rw [add_block]; exact Nat.ne_of_lt (Nat.lt_of_lt_of_le (by have := zL _ _ hw123_0; first | rwa [add_block] at this | exact this) GW127.out)) | (dsimp only; exact Nat.ne_of_lt (Nat.lt_of_lt_of_le (by have := zL _ _ hw123_0; first | rwa [add_block] at this | exact this) GW127.out))) _).trans (hHeld.1)))), ((cell_far (p := ⟨gb127, _, none⟩) (by first | exact Nat.ne_of_lt (Nat.lt_of_lt_of_le (by have := zL _ _ hw123_1; first | rwa [add_block] at this | exact this) GW127.out) | (rw [add_block]; exact Nat.ne_of_lt (Nat.lt_of_lt_of_le (by have := zL _ _ hw123_1; first | rwa [add_block] at this | exact this) GW127.out)) | (show (Addr.add _ _).block ≠ _; rw [add_block]; exact Nat.ne_of_lt (Nat.lt_of_lt_of_le (by have := zL _ _ hw123_1; first | rwa [add_block] at this | exact this) GW127.out)) | (dsimp only; exact Nat.ne_of_lt (Nat.lt_of_lt_of_le (by have := zL _ _ hw123_1; first | rwa [add_block] at this | exact this) GW127.out))) _).trans (((cell_far (p := ⟨gb127, _, none⟩) (by first | exact Nat.ne_of_lt (Nat.lt_of_lt_of_le (by have := zL _ _ hw123_1; first | rwa [add_block] at this | exact this) GW127.out) | (rw [add_block]; exact Nat.ne_of_lt (Nat.lt_of_lt_of_le (by have := zL _ _ hw123_1; first | rwa [add_block] at this | exact this) GW127.out)) | (show (Addr.add _ _).block ≠ _; rw [add_block]; exact Nat.ne_of_lt (Nat.lt_of_lt_of_le (by have := zL _ _ hw123_1; first | rwa [add_block] at this | exact this) GW127.out)) | (dsimp only; exact Nat.ne_of_lt (Nat.lt_of_lt_of_le (by have := zL _ _ hw123_1; first | rwa [add_block] at this | exact this) GW127.out))) _).trans (hHeld.2.1)))), ((cell_far (p := ⟨gb127, _, none⟩) (by first | exact Nat.ne_of_lt (Nat.lt_of_lt_of_le (by have := zL _ _ hw123_2; first | rwa [add_block] at this | exact this) GW127.out) | (rw [add_block]; exact Nat.ne_of_lt (Nat.lt_of_lt_of_le (by have := zL _ _ hw123_2; first | rwa [add_block] at this | exact this) GW127.out)) | (show (Addr.add _ _).block ≠ _; rw [add_block]; exact Nat.ne_of_lt (Nat.lt_of_lt_of_le (by have := zL _ _ hw123_2; first | rwa [add_block] at this | exact this) GW127.out)) | (dsimp only; exact Nat.ne_of_lt (Nat.lt_of_lt_of_le (by have := zL _ _ hw123_2; first | rwa [add_block] at this | exact this) GW127.out))) _).trans (((cell_far (p := ⟨gb127, _, none⟩) (by first | exact Nat.ne_of_lt (Nat.lt_of_lt_of_le (by have := zL _ _ hw123_2; first | rwa [add_block] at this | exact this) GW127.out) | (rw [add_block]; exact Nat.ne_of_lt (Nat.lt_of_lt_of_le (by have := zL _ _ hw123_2; first | rwa [add_block] at this | exact this) GW127.out)) | (show (Addr.add _ _).block ≠ _; rw [add_block]; exact Nat.ne_of_lt (Nat.lt_of_lt_of_le (by have := zL _ _ hw123_2; first | rwa [add_block] at this | exact this) GW127.out)) | (dsimp only; exact Nat.ne_of_lt (Nat.lt_of_lt_of_le (by have := zL _ _ hw123_2; first | rwa [add_block] at this | exact this) GW127.out))) _).trans (hHeld.2.2.1)))), ((cell_far (p := ⟨gb127, _, none⟩) (by first | exact Nat.ne_of_lt (Nat.lt_of_lt_of_le (by have := zL _ _ hw124_0; first | rwa [add_block] at this | exact this) GW127.out) | (rw [add_block]; exact Nat.ne_of_lt (Nat.lt_of_lt_of_le (by have := zL _ _ hw124_0; first | rwa [add_block] at this | exact this) GW127.out)) | (show (Addr.add _ _).block ≠ _; rw [add_block]; exact Nat.ne_of_lt (Nat.lt_of_lt_of_le (by have := zL _ _ hw124_0; first | rwa [add_block] at this | exact this) GW127.out)) | (dsimp only; exact Nat.ne_of_lt (Nat.lt_of_lt_of_le (by have := zL _ _ hw124_0; first | rwa [add_block] at this | exact this) GW127.out))) _).trans (((cell_far (p := ⟨gb127, _, none⟩) (by first | exact Nat.ne_of_lt (Nat.lt_of_lt_of_le (by have := zL _ _ hw124_0; first | rwa [add_block] at this | exact this) GW127.out) | (rw [add_block]; exact Nat.ne_of_lt (Nat.lt_of_lt_of_le (by have := zL _ _ hw124_0; first | rwa [add_block] at this | exact this) GW127.out)) | (show (Addr.add _ _).block ≠ _; rw [add_block]; exact Nat.ne_of_lt (Nat.lt_of_lt_of_le (by have := zL _ _ hw124_0; first | rwa [add_block] at this | exact this) GW127.out)) | (dsimp only; exact Nat.ne_of_lt (Nat.lt_of_lt_of_le (by have := zL _ _ hw124_0; first | rwa [add_block] at this | exact this) GW127.out))) _).trans (hHeld.2.2.2.1)))), ((cell_far (p := ⟨gb127, _, none⟩) (by first | exact Nat.ne_of_lt (Nat.lt_of_lt_of_le (by have := zL _ _ hw124_1; first | rwa [add_block] at this | exact this) GW127.out) | (rw [add_block]; exact Nat.ne_of_lt (Nat.lt_of_lt_of_le (by have := zL _ _ hw124_1; first | rwa [add_block] at this | exact this) GW127.out)) | (show (Addr.add _ _).block ≠ _; rw [add_block]; exact Nat.ne_of_lt (Nat.lt_of_lt_of_le (by have := zL _ _ hw124_1; first | rwa [add_block] at this | exact this) GW127.out)) | (dsimp only; exact Nat.ne_of_lt (Nat.lt_of_lt_of_le (by have := zL _ _ hw124_1; first | rwa [add_block] at this | exact this) GW127.out))) _).trans (((cell_far (p := ⟨gb127, _, none⟩) (by first | exact Nat.ne_of_lt (Nat.lt_of_lt_of_le (by have := zL _ _ hw124_1; first | rwa [add_block] at this | exact this) GW127.out) | (rw [add_block]; exact Nat.ne_of_lt (Nat.lt_of_lt_of_le (by have := zL _ _ hw124_1; first | rwa [add_block] at this | exact this) GW127.out)) | (show (Addr.add _ _).block ≠ _; rw [add_block]; exact Nat.ne_of_lt (Nat.lt_of_lt_of_le (by have := zL _ _ hw124_1; first | rwa [add_block] at this | exact this) GW127.out)) | (dsimp only; exact Nat.ne_of_lt (Nat.lt_of_lt_of_le (by have := zL _ _ hw124_1; first | rwa [add_block] at this | exact this) GW127.out))) _).trans (hHeld.2.2.2.2.1)))), ((cell_far (p := ⟨gb127, _, none⟩) (by first | exact Nat.ne_of_lt (Nat.lt_of_lt_of_le (by have := zL _ _ hw124_2; first | rwa [add_block] at this | exact this) GW127.out) | (rw [add_block]; exact Nat.ne_of_lt (Nat.lt_of_lt_of_le (by have := zL _ _ hw124_2; first | rwa [add_block] at this | exact this) GW127.out)) | (show (Addr.add _ _).block ≠ _; rw [add_block]; exact Nat.ne_of_lt (Nat.lt_of_lt_of_le (by have := zL _ _ hw124_2; first | rwa [add_block] at this | exact this) GW127.out)) | (dsimp only; exact Nat.ne_of_lt (Nat.lt_of_lt_of_le (by have := zL _ _ hw124_2; first | rwa [add_block] at this | exact this) GW127.out))) _).trans (((cell_far (p := ⟨gb127, _, none⟩) (by first | exact Nat.ne_of_lt (Nat.lt_of_lt_of_le (by have := zL _ _ hw124_2; first | rwa [add_block] at this | exact this) GW127.out) | (rw [add_block]; exact Nat.ne_of_lt (Nat.lt_of_lt_of_le (by have := zL _ _ hw124_2; first | rwa [add_block] at this | exact this) GW127.out)) | (show (Addr.add _ _).block ≠ _; rw [add_block]; exact Nat.ne_of_lt (Nat.lt_of_lt_of_le (by have := zL _ _ hw124_2; first | rwa [add_block] at this | exact this) GW127.out)) | (dsimp only; exact Nat.ne_of_lt (Nat.lt_of_lt_of_le (by have := zL _ _ hw124_2; first | rwa [add_block] at this | exact this) GW127.out))) _).trans (hHeld.2.2.2.2.2))))⟩ (fun hHeld => ?_)
        clear hK K
        refine done_ (done_of HT_.out (by kernel_rfl)) ?_
        have hcz46_0 : w43.cell? ⟨gb127, 0, none⟩ = some (.int .i64 0) := (blk_cell BK127.out 0).trans rfl
        have hcz46_1 : w43.cell? ⟨gb127, 1, none⟩ = some (.string (⟨#[]⟩ : ByteArray)) := (blk_cell BK127.out 1).trans rfl
        have hfz46_0 := blk_frozen BK127.out 0
        have hfz46_1 := blk_frozen BK127.out 1
        try go_wp2
        have n0_ : Aside0 (((w43.setCell ⟨gb127, 0, none⟩ (.int .i64 t125)).setCell ⟨gb127, 1, none⟩ (.string t126)).heap[gb127]? = some (.cells #[.int .i64 t125, .string t126] 36 (0, 0))) := ⟨by (with_reducible repeat (first | refine zM ?_ _ | refine zP ?_ | refine zQ ?_ _)); refine blk_put (cs := #[.int .i64 t125, .string (⟨#[]⟩ : ByteArray)]) ?_ 1 _ rfl; (with_reducible repeat (first | refine zM ?_ _ | refine zP ?_ | refine zQ ?_ _)); refine blk_put (cs := #[.int .i64 0, .string (⟨#[]⟩ : ByteArray)]) ?_ 0 _ rfl; (with_reducible repeat (first | refine zM ?_ _ | refine zP ?_ | refine zQ ?_ _)); exact BK127.out⟩
        have n1_ : Aside0 (Below w.heap.size w ((w43.setCell ⟨gb127, 0, none⟩ (.int .i64 t125)).setCell ⟨gb127, 1, none⟩ (.string t126))) := ⟨by repeat (first | (with_reducible first | exact HB.out | apply zA | apply zN | apply zD | refine below_set ?_ GE127.out) | exact HB.out)⟩
        (try clear BK127)
        (try clear HB)
        generalize ((w43.setCell ⟨gb127, 0, none⟩ (.int .i64 t125)).setCell ⟨gb127, 1, none⟩ (.string t126)) = w47 at n0_ n1_ ⊢
        have BK127 := n0_
        have HB := n1_
        clear n0_ n1_
        have n0_ := zK (zP BK127.out)
        have n1_ := zK (zD HB.out)
        clear BK127
        clear HB
        have BK127 := n0_
        have HB := n1_
        clear n0_ n1_
        have p128 : 0 ≤ (x3_1 : Int) := zX (by first | (with_reducible assumption) | assumption)
        have q128 : x3_1 < (l0.length : Int) := zX (by first | (with_reducible assumption) | assumption)
        obtain ⟨ad128, e128, hx128_0, hx128_1, hx128_2⟩ := at_T96 HR0.out x3_1 p128 q128
        have hw128_2 := hx128_2
        have hw128_1 := hx128_1
        have hw128_0 := hx128_0
        obtain rfl : ad123 = ad128 := (by injection e128)
        replace hx128_0 := (HB.out.cell (zL w _ hx128_0)).trans hx128_0
        replace hx128_1 := (HB.out.cell (zL w _ hx128_1)).trans hx128_1
        replace hx128_2 := (HB.out.cell (zL w _ hx128_2)).trans hx128_2
        replace p128 := eq_true p128
        replace q128 := eq_true q128
        refine start_ (n := 26) (S := fun w' => w'.cell? ⟨gb127, 0, none⟩ = some (.int .i64 t125) ∧ w'.cell? ⟨gb127, 1, none⟩ = some (.string t126) ∧ w'.cell? (ad123.add ((x3_1).toNat * 3)) = some (.string ((rd_T96 l0 x3_1).f0)) ∧ w'.cell? ⟨(ad123.add ((x3_1).toNat * 3)).block, (ad123.add ((x3_1).toNat * 3)).off + 1, none⟩ = some (.int .i64 ((rd_T96 l0 x3_1).f1)) ∧ w'.cell? ⟨(ad123.add ((x3_1).toNat * 3)).block, (ad123.add ((x3_1).toNat * 3)).off + 2, none⟩ = some (.string ((rd_T96 l0 x3_1).f2))) (ds := []) #[zF,zF,zF,zF,zF,zF,zF,zF,zF,zF,zF,zF,zF,zF,zF,zF,zF,zF,zF,zF,zF,zF,zF,zF,zF,zF] (by kernel_rfl) rfl rfl ⟨(blk_cell BK127.out 0).trans rfl, (blk_cell BK127.out 1).trans rfl, ((HB.out.cell (zL w _ hw128_0)).trans hw128_0), ((HB.out.cell (zL w _ hw128_1)).trans hw128_1), ((HB.out.cell (zL w _ hw128_2)).trans hw128_2)⟩ (fun hHeld => ?_); refine with_tabW spec_StoreFault.tab9 spec_StoreFault.bits9 (fun HT_ HW_ => ?_)
        generalize w47.drew = w48 at BK127 HB hx128_0 hx128_1 hx128_2 hHeld ⊢
        refine pure_ (i := 0) (N := some 30) (v := ?_) (a' := ?_) #[zB,zF,zF,zF,zF,zF,zF,zF,zF,zF,zF,zF,zF,zF,zF,zF,zF,zF,zF,zF,zF,zF,zF,zF,zF,zF] rfl rfl (any_of HT_.out (by kernel_rfl)) (fun _ _ _ h => h) (Or.inl ⟨by rfl, ?_⟩) ?_ ?_
        rotate_left
        ·
         intro w'
         go_simp
         with_reducible rfl
        rotate_left
        ·
         simp only [Act.put, zS, zT, zU, i64_w, i32_w]
         rfl
        refine pure_ (i := 2) (N := some 32) (v := ?_) (a' := ?_) #[zB,zF,zB,zF,zF,zF,zF,zF,zF,zF,zF,zF,zF,zF,zF,zF,zF,zF,zF,zF,zF,zF,zF,zF,zF,zF] rfl rfl (any_of HT_.out (by kernel_rfl)) (fun _ _ _ h => h) (Or.inl ⟨by rfl, ?_⟩) ?_ ?_
        rotate_left
        ·
         intro w'
         go_simp
         with_reducible rfl
        rotate_left
        ·
         simp only [Act.put, zS, zT, zU, i64_w, i32_w]
         rfl
        refine pure_ (i := 3) (N := some 33) (v := ?_) (a' := ?_) #[zB,zF,zB,zB,zF,zF,zF,zF,zF,zF,zF,zF,zF,zF,zF,zF,zF,zF,zF,zF,zF,zF,zF,zF,zF,zF] rfl rfl (any_of HT_.out (by kernel_rfl)) (fun _ _ _ h => h) (Or.inl ⟨by rfl, ?_⟩) ?_ ?_
        rotate_left
        ·
         intro w'
         go_simp
         with_reducible rfl
        rotate_left
        ·
         simp only [Act.put, zS, zT, zU, i64_w, i32_w]
         rfl
        refine pure_ (i := 4) (N := some 34) (v := ?_) (a' := ?_) #[zB,zF,zB,zB,zB,zF,zF,zF,zF,zF,zF,zF,zF,zF,zF,zF,zF,zF,zF,zF,zF,zF,zF,zF,zF,zF] rfl rfl (any_of HT_.out (by kernel_rfl)) (fun _ _ _ h => h) (Or.inl ⟨by rfl, ?_⟩) ?_ ?_
        rotate_left
        ·
         intro w'
         go_simp
         with_reducible rfl
        rotate_left
        ·
         simp only [Act.put, zS, zT, zU, i64_w, i32_w]
         rfl
        refine pure_ (i := 5) (N := some 35) (v := ?_) (a' := ?_) #[zB,zF,zB,zB,zB,zB,zF,zF,zF,zF,zF,zF,zF,zF,zF,zF,zF,zF,zF,zF,zF,zF,zF,zF,zF,zF] rfl rfl (any_of HT_.out (by kernel_rfl)) (fun _ _ _ h => h) (Or.inl ⟨by rfl, ?_⟩) ?_ ?_
        rotate_left
        ·
         intro w'
         go_simp
         with_reducible rfl
        rotate_left
        ·
         simp only [Act.put, zS, zT, zU, i64_w, i32_w]
         rfl
        refine take_ (i := 1) (N := some 31) (v := ?_) (a' := ?_) #[zB,zB,zB,zB,zB,zB,zF,zF,zF,zF,zF,zF,zF,zF,zF,zF,zF,zF,zF,zF,zF,zF,zF,zF,zF,zF] rfl rfl (take_ofW HT_.out HW_.out (by kernel_rfl)) (fun _ _ _ h => h) (Or.inl ⟨by rfl, ?_⟩) hHeld ?_ ?_
        rotate_left
        ·
         rintro w' ⟨s0, s1, s2, s3, s4⟩
         go_simp
         with_reducible rfl
        rotate_left
        ·
         simp only [Act.put, zS, zT, zU, i64_w, i32_w]
         rfl
        refine take_ (i := 6) (N := some 36) (v := ?_) (a' := ?_) #[zB,zB,zB,zB,zB,zB,zB,zF,zF,zF,zF,zF,zF,zF,zF,zF,zF,zF,zF,zF,zF,zF,zF,zF,zF,zF] rfl rfl (take_ofW HT_.out HW_.out (by kernel_rfl)) (fun _ _ _ h => h) (Or.inl ⟨by rfl, ?_⟩) hHeld ?_ ?_
        rotate_left
        ·
         rintro w' ⟨s0, s1, s2, s3, s4⟩
         go_simp
         with_reducible rfl
        rotate_left
        ·
         simp only [Act.put, zS, zT, zU, i64_w, i32_w]
         rfl
        refine pure_ (i := 7) (N := some 37) (v := ?_) (a' := ?_) #[zB,zB,zB,zB,zB,zB,zB,zB,zF,zF,zF,zF,zF,zF,zF,zF,zF,zF,zF,zF,zF,zF,zF,zF,zF,zF] rfl rfl (any_of HT_.out (by kernel_rfl)) (fun _ _ _ h => h) (Or.inl ⟨by rfl, ?_⟩) ?_ ?_
        rotate_left
        ·
         intro w'
         go_simp
         with_reducible rfl
        rotate_left
        ·
         simp only [Act.put, zS, zT, zU, i64_w, i32_w]
         rfl
        refine pure_ (i := 8) (N := some 38) (v := ?_) (a' := ?_) #[zB,zB,zB,zB,zB,zB,zB,zB,zB,zF,zF,zF,zF,zF,zF,zF,zF,zF,zF,zF,zF,zF,zF,zF,zF,zF] rfl rfl (any_of HT_.out (by kernel_rfl)) (fun _ _ _ h => h) (Or.inl ⟨by rfl, ?_⟩) ?_ ?_
        rotate_left
        ·
         intro w'
         go_simp
         with_reducible rfl
        rotate_left
        ·
         simp only [Act.put, zS, zT, zU, i64_w, i32_w]
         rfl
        refine pure_ (i := 9) (N := some 39) (v := undef) (a' := ?_) #[zB,zB,zB,zB,zB,zB,zB,zB,zB,zB,zF,zF,zF,zF,zF,zF,zF,zF,zF,zF,zF,zF,zF,zF,zF,zF] rfl rfl (any_of HT_.out (by kernel_rfl)) (fun _ _ _ h => h) (Or.inr ⟨by rfl, rfl⟩) ?_ ?_
        rotate_left
        ·
         simp only [Act.put, zS, zT, zU, i64_w, i32_w]
         rfl
        refine pure_ (i := 10) (N := some 40) (v := undef) (a' := ?_) #[zB,zB,zB,zB,zB,zB,zB,zB,zB,zB,zB,zF,zF,zF,zF,zF,zF,zF,zF,zF,zF,zF,zF,zF,zF,zF] rfl rfl (any_of HT_.out (by kernel_rfl)) (fun _ _ _ h => h) (Or.inr ⟨by rfl, rfl⟩) ?_ ?_
        rotate_left
        ·
         simp only [Act.put, zS, zT, zU, i64_w, i32_w]
         rfl
        refine pure_ (i := 11) (N := some 41) (v := undef) (a' := ?_) #[zB,zB,zB,zB,zB,zB,zB,zB,zB,zB,zB,zB,zF,zF,zF,zF,zF,zF,zF,zF,zF,zF,zF,zF,zF,zF] rfl rfl (any_of HT_.out (by kernel_rfl)) (fun _ _ _ h => h) (Or.inr ⟨by rfl, rfl⟩) ?_ ?_
        rotate_left
        ·
         simp only [Act.put, zS, zT, zU, i64_w, i32_w]
         rfl
        refine pure_ (i := 12) (N := some 42) (v := undef) (a' := ?_) #[zB,zB,zB,zB,zB,zB,zB,zB,zB,zB,zB,zB,zB,zF,zF,zF,zF,zF,zF,zF,zF,zF,zF,zF,zF,zF] rfl rfl (any_of HT_.out (by kernel_rfl)) (fun _ _ _ h => h) (Or.inr ⟨by rfl, rfl⟩) ?_ ?_
        rotate_left
        ·
         simp only [Act.put, zS, zT, zU, i64_w, i32_w]
         rfl
        refine pure_ (i := 13) (N := some 43) (v := undef) (a' := ?_) #[zB,zB,zB,zB,zB,zB,zB,zB,zB,zB,zB,zB,zB,zB,zF,zF,zF,zF,zF,zF,zF,zF,zF,zF,zF,zF] rfl rfl (any_of HT_.out (by kernel_rfl)) (fun _ _ _ h => h) (Or.inr ⟨by rfl, rfl⟩) ?_ ?_
        rotate_left
        ·
         simp only [Act.put, zS, zT, zU, i64_w, i32_w]
         rfl
        refine pure_ (i := 14) (N := some 44) (v := undef) (a' := ?_) #[zB,zB,zB,zB,zB,zB,zB,zB,zB,zB,zB,zB,zB,zB,zB,zF,zF,zF,zF,zF,zF,zF,zF,zF,zF,zF] rfl rfl (any_of HT_.out (by kernel_rfl)) (fun _ _ _ h => h) (Or.inr ⟨by rfl, rfl⟩) ?_ ?_
        rotate_left
        ·
         simp only [Act.put, zS, zT, zU, i64_w, i32_w]
         rfl
        refine pure_ (i := 15) (N := some 45) (v := undef) (a' := ?_) #[zB,zB,zB,zB,zB,zB,zB,zB,zB,zB,zB,zB,zB,zB,zB,zB,zF,zF,zF,zF,zF,zF,zF,zF,zF,zF] rfl rfl (any_of HT_.out (by kernel_rfl)) (fun _ _ _ h => h) (Or.inr ⟨by rfl, rfl⟩) ?_ ?_
        rotate_left
        ·
         simp only [Act.put, zS, zT, zU, i64_w, i32_w]
         rfl
        refine pure_ (i := 16) (N := some 46) (v := undef) (a' := ?_) #[zB,zB,zB,zB,zB,zB,zB,zB,zB,zB,zB,zB,zB,zB,zB,zB,zB,zF,zF,zF,zF,zF,zF,zF,zF,zF] rfl rfl (any_of HT_.out (by kernel_rfl)) (fun _ _ _ h => h) (Or.inr ⟨by rfl, rfl⟩) ?_ ?_
        rotate_left
        ·
         simp only [Act.put, zS, zT, zU, i64_w, i32_w]
         rfl
        refine pure_ (i := 17) (N := some 47) (v := undef) (a' := ?_) #[zB,zB,zB,zB,zB,zB,zB,zB,zB,zB,zB,zB,zB,zB,zB,zB,zB,zB,zF,zF,zF,zF,zF,zF,zF,zF] rfl rfl (any_of HT_.out (by kernel_rfl)) (fun _ _ _ h => h) (Or.inr ⟨by rfl, rfl⟩) ?_ ?_
        rotate_left
        ·
         simp only [Act.put, zS, zT, zU, i64_w, i32_w]
         rfl
        refine pure_ (i := 18) (N := some 48) (v := undef) (a' := ?_) #[zB,zB,zB,zB,zB,zB,zB,zB,zB,zB,zB,zB,zB,zB,zB,zB,zB,zB,zB,zF,zF,zF,zF,zF,zF,zF] rfl rfl (any_of HT_.out (by kernel_rfl)) (fun _ _ _ h => h) (Or.inr ⟨by rfl, rfl⟩) ?_ ?_
        rotate_left
        ·
         simp only [Act.put, zS, zT, zU, i64_w, i32_w]
         rfl
        refine pure_ (i := 19) (N := some 49) (v := undef) (a' := ?_) #[zB,zB,zB,zB,zB,zB,zB,zB,zB,zB,zB,zB,zB,zB,zB,zB,zB,zB,zB,zB,zF,zF,zF,zF,zF,zF] rfl rfl (any_of HT_.out (by kernel_rfl)) (fun _ _ _ h => h) (Or.inr ⟨by rfl, rfl⟩) ?_ ?_
        rotate_left
        ·
         simp only [Act.put, zS, zT, zU, i64_w, i32_w]
         rfl
        refine pure_ (i := 20) (N := some 50) (v := undef) (a' := ?_) #[zB,zB,zB,zB,zB,zB,zB,zB,zB,zB,zB,zB,zB,zB,zB,zB,zB,zB,zB,zB,zB,zF,zF,zF,zF,zF] rfl rfl (any_of HT_.out (by kernel_rfl)) (fun _ _ _ h => h) (Or.inr ⟨by rfl, rfl⟩) ?_ ?_
        rotate_left
        ·
         simp only [Act.put, zS, zT, zU, i64_w, i32_w]
         rfl
        refine pure_ (i := 21) (N := some 51) (v := undef) (a' := ?_) #[zB,zB,zB,zB,zB,zB,zB,zB,zB,zB,zB,zB,zB,zB,zB,zB,zB,zB,zB,zB,zB,zB,zF,zF,zF,zF] rfl rfl (any_of HT_.out (by kernel_rfl)) (fun _ _ _ h => h) (Or.inr ⟨by rfl, rfl⟩) ?_ ?_
        rotate_left
        ·
         simp only [Act.put, zS, zT, zU, i64_w, i32_w]
         rfl
        refine pure_ (i := 22) (N := some 52) (v := undef) (a' := ?_) #[zB,zB,zB,zB,zB,zB,zB,zB,zB,zB,zB,zB,zB,zB,zB,zB,zB,zB,zB,zB,zB,zB,zB,zF,zF,zF] rfl rfl (any_of HT_.out (by kernel_rfl)) (fun _ _ _ h => h) (Or.inr ⟨by rfl, rfl⟩) ?_ ?_
        rotate_left
        ·
         simp only [Act.put, zS, zT, zU, i64_w, i32_w]
         rfl
        refine pure_ (i := 23) (N := some 53) (v := undef) (a' := ?_) #[zB,zB,zB,zB,zB,zB,zB,zB,zB,zB,zB,zB,zB,zB,zB,zB,zB,zB,zB,zB,zB,zB,zB,zB,zF,zF] rfl rfl (any_of HT_.out (by kernel_rfl)) (fun _ _ _ h => h) (Or.inr ⟨by rfl, rfl⟩) ?_ ?_
        rotate_left
        ·
         simp only [Act.put, zS, zT, zU, i64_w, i32_w]
         rfl
        refine pure_ (i := 24) (N := some 54) (v := undef) (a' := ?_) #[zB,zB,zB,zB,zB,zB,zB,zB,zB,zB,zB,zB,zB,zB,zB,zB,zB,zB,zB,zB,zB,zB,zB,zB,zB,zF] rfl rfl (any_of HT_.out (by kernel_rfl)) (fun _ _ _ h => h) (Or.inr ⟨by rfl, rfl⟩) ?_ ?_
        rotate_left
        ·
         simp only [Act.put, zS, zT, zU, i64_w, i32_w]
         rfl
        refine pure_ (i := 25) (N := some 55) (v := ?_) (a' := ?_) #[zB,zB,zB,zB,zB,zB,zB,zB,zB,zB,zB,zB,zB,zB,zB,zB,zB,zB,zB,zB,zB,zB,zB,zB,zB,zB] rfl rfl (any_of HT_.out (by kernel_rfl)) (fun _ _ _ h => h) (Or.inl ⟨by rfl, ?_⟩) ?_ ?_
        rotate_left
        ·
         intro w'
         go_simp
         with_reducible rfl
        rotate_left
        ·
         simp only [Act.put, zS, zT, zU, i64_w, i32_w]
         rfl
        refine done_ (done_of HT_.out (by kernel_rfl)) ?_
        try go_wp2
        go_ret
        exact ⟨by first | rfl | (simp [errW_none, errW_some] <;> rfl) | (simp [*, errW_none, errW_some] <;> rfl), by repeat (first | (with_reducible first | exact HB.out | apply zA | apply zN | apply zD | refine below_set ?_ GE127.out) | exact HB.out)⟩
      ·
       rw [if_neg c6] at H
       have c6b0 : (t125 == 0) = false := beq_eq_false_iff_ne.mpr c6
       have c6b1 : (t125 != 0) = true := bne_iff_ne.mpr c6
       obtain rfl := Option.some.inj H
       try go_wp2
       have n0_ := zK (zD HB.out)
       clear HB
       have HB := n0_
       clear n0_
       have p123 : 0 ≤ (x3_1 : Int) := zX (by first | (with_reducible assumption) | assumption)
       have q123 : x3_1 < (l0.length : Int) := zX (by first | (with_reducible assumption) | assumption)
       obtain ⟨ad123, e123, hx123_0, hx123_1, hx123_2⟩ := at_T96 HR0.out x3_1 p123 q123
       have hw123_2 := hx123_2
       have hw123_1 := hx123_1
       have hw123_0 := hx123_0
       cases e123
       replace hx123_0 := (HB.out.cell (zL w _ hx123_0)).trans hx123_0
       replace hx123_1 := (HB.out.cell (zL w _ hx123_1)).trans hx123_1
       replace hx123_2 := (HB.out.cell (zL w _ hx123_2)).trans hx123_2
       replace p123 := eq_true p123
       replace q123 := eq_true q123
       have p124 : 0 ≤ (x3_1 : Int) := zX (by first | (with_reducible assumption) | assumption)
       have q124 : x3_1 < (l0.length : Int) := zX (by first | (with_reducible assumption) | assumption)
       obtain ⟨ad124, e124, hx124_0, hx124_1, hx124_2⟩ := at_T96 HR0.out x3_1 p124 q124
       have hw124_2 := hx124_2
       have hw124_1 := hx124_1
       have hw124_0 := hx124_0
       obtain rfl : ad123 = ad124 := (by injection e124)
       replace hx124_0 := (HB.out.cell (zL w _ hx124_0)).trans hx124_0
       replace hx124_1 := (HB.out.cell (zL w _ hx124_1)).trans hx124_1
       replace hx124_2 := (HB.out.cell (zL w _ hx124_2)).trans hx124_2
       replace p124 := eq_true p124
       replace q124 := eq_true q124
       refine start_ (n := 13) (S := fun w' => w'.cell? (ad123.add ((x3_1).toNat * 3)) = some (.string ((rd_T96 l0 x3_1).f0)) ∧ w'.cell? ⟨(ad123.add ((x3_1).toNat * 3)).block, (ad123.add ((x3_1).toNat * 3)).off + 1, none⟩ = some (.int .i64 ((rd_T96 l0 x3_1).f1)) ∧ w'.cell? ⟨(ad123.add ((x3_1).toNat * 3)).block, (ad123.add ((x3_1).toNat * 3)).off + 2, none⟩ = some (.string ((rd_T96 l0 x3_1).f2)) ∧ w'.cell? (ad123.add ((x3_1).toNat * 3)) = some (.string ((rd_T96 l0 x3_1).f0)) ∧ w'.cell? ⟨(ad123.add ((x3_1).toNat * 3)).block, (ad123.add ((x3_1).toNat * 3)).off + 1, none⟩ = some (.int .i64 ((rd_T96 l0 x3_1).f1)) ∧ w'.cell? ⟨(ad123.add ((x3_1).toNat * 3)).block, (ad123.add ((x3_1).toNat * 3)).off + 2, none⟩ = some (.string ((rd_T96 l0 x3_1).f2))) (ds := []) #[zF,zF,zF,zF,zF,zF,zF,zF,zF,zF,zF,zF,zF] (by kernel_rfl) rfl rfl ⟨((HB.out.cell (zL w _ hw123_0)).trans hw123_0), ((HB.out.cell (zL w _ hw123_1)).trans hw123_1), ((HB.out.cell (zL w _ hw123_2)).trans hw123_2), ((HB.out.cell (zL w _ hw124_0)).trans hw124_0), ((HB.out.cell (zL w _ hw124_1)).trans hw124_1), ((HB.out.cell (zL w _ hw124_2)).trans hw124_2)⟩ (fun hHeld => ?_); refine with_tabW spec_StoreFault.tab6 spec_StoreFault.bits6 (fun HT_ HW_ => ?_)
       generalize wr.drew = w49 at HB hx123_0 hx123_1 hx123_2 hx124_0 hx124_1 hx124_2 hHeld ⊢
       refine pure_ (i := 0) (N := some 14) (v := ?_) (a' := ?_) #[zB,zF,zF,zF,zF,zF,zF,zF,zF,zF,zF,zF,zF] rfl rfl (any_of HT_.out (by kernel_rfl)) (fun _ _ _ h => h) (Or.inl ⟨by rfl, ?_⟩) ?_ ?_
       rotate_left
       ·
        intro w'
        go_simp
        with_reducible rfl
       rotate_left
       ·
        simp only [Act.put, zS, zT, zU, i64_w, i32_w]
        rfl
       refine pure_ (i := 1) (N := some 15) (v := ?_) (a' := ?_) #[zB,zB,zF,zF,zF,zF,zF,zF,zF,zF,zF,zF,zF] rfl rfl (any_of HT_.out (by kernel_rfl)) (fun _ _ _ h => h) (Or.inl ⟨by rfl, ?_⟩) ?_ ?_
       rotate_left
       ·
        intro w'
        go_simp
        with_reducible rfl
       rotate_left
       ·
        simp only [Act.put, zS, zT, zU, i64_w, i32_w]
        rfl
       refine pure_ (i := 2) (N := some 16) (v := ?_) (a' := ?_) #[zB,zB,zB,zF,zF,zF,zF,zF,zF,zF,zF,zF,zF] rfl rfl (any_of HT_.out (by kernel_rfl)) (fun _ _ _ h => h) (Or.inl ⟨by rfl, ?_⟩) ?_ ?_
       rotate_left
       ·
        intro w'
        go_simp
        with_reducible rfl
       rotate_left
       ·
        simp only [Act.put, zS, zT, zU, i64_w, i32_w]
        rfl
       refine pure_ (i := 3) (N := some 17) (v := ?_) (a' := ?_) #[zB,zB,zB,zB,zF,zF,zF,zF,zF,zF,zF,zF,zF] rfl rfl (any_of HT_.out (by kernel_rfl)) (fun _ _ _ h => h) (Or.inl ⟨by rfl, ?_⟩) ?_ ?_
       rotate_left
       ·
        intro w'
        go_simp
        with_reducible rfl
       rotate_left
       ·
        simp only [Act.put, zS, zT, zU, i64_w, i32_w]
        rfl
       refine pure_ (i := 5) (N := some 19) (v := ?_) (a' := ?_) #[zB,zB,zB,zB,zF,zB,zF,zF,zF,zF,zF,zF,zF] rfl rfl (any_of HT_.out (by kernel_rfl)) (fun _ _ _ h => h) (Or.inl ⟨by rfl, ?_⟩) ?_ ?_
       rotate_left
       ·
        intro w'
        go_simp
        with_reducible rfl
       rotate_left
       ·
        simp only [Act.put, zS, zT, zU, i64_w, i32_w]
        rfl
       refine pure_ (i := 6) (N := some 20) (v := ?_) (a' := ?_) #[zB,zB,zB,zB,zF,zB,zB,zF,zF,zF,zF,zF,zF] rfl rfl (any_of HT_.out (by kernel_rfl)) (fun _ _ _ h => h) (Or.inl ⟨by rfl, ?_⟩) ?_ ?_
       rotate_left
       ·
        intro w'
        go_simp
        with_reducible rfl
       rotate_left
       ·
        simp only [Act.put, zS, zT, zU, i64_w, i32_w]
        rfl
       refine pure_ (i := 7) (N := some 21) (v := ?_) (a' := ?_) #[zB,zB,zB,zB,zF,zB,zB,zB,zF,zF,zF,zF,zF] rfl rfl (any_of HT_.out (by kernel_rfl)) (fun _ _ _ h => h) (Or.inl ⟨by rfl, ?_⟩) ?_ ?_
       rotate_left
       ·
        intro w'
        go_simp
        with_reducible rfl
       rotate_left
       ·
        simp only [Act.put, zS, zT, zU, i64_w, i32_w]
        rfl
       refine pure_ (i := 8) (N := some 22) (v := ?_) (a' := ?_) #[zB,zB,zB,zB,zF,zB,zB,zB,zB,zF,zF,zF,zF] rfl rfl (any_of HT_.out (by kernel_rfl)) (fun _ _ _ h => h) (Or.inl ⟨by rfl, ?_⟩) ?_ ?_
       rotate_left
       ·
        intro w'
        go_simp
        with_reducible rfl
       rotate_left
       ·
        simp only [Act.put, zS, zT, zU, i64_w, i32_w]
        rfl
       refine take_ (i := 4) (N := some 18) (v := ?_) (a' := ?_) #[zB,zB,zB,zB,zB,zB,zB,zB,zB,zF,zF,zF,zF] rfl rfl (take_ofW HT_.out HW_.out (by kernel_rfl)) (fun _ _ _ h => h) (Or.inl ⟨by rfl, ?_⟩) hHeld ?_ ?_
       rotate_left
       ·
        rintro w' ⟨s0, s1, s2, s3, s4, s5⟩
        go_simp
        with_reducible rfl
       rotate_left
       ·
        simp only [Act.put, zS, zT, zU, i64_w, i32_w]
        rfl
       refine take_ (i := 9) (N := some 23) (v := ?_) (a' := ?_) #[zB,zB,zB,zB,zB,zB,zB,zB,zB,zB,zF,zF,zF] rfl rfl (take_ofW HT_.out HW_.out (by kernel_rfl)) (fun _ _ _ h => h) (Or.inl ⟨by rfl, ?_⟩) hHeld ?_ ?_
       rotate_left
       ·
        rintro w' ⟨s0, s1, s2, s3, s4, s5⟩
        go_simp
        with_reducible rfl
       rotate_left
       ·
        simp only [Act.put, zS, zT, zU, i64_w, i32_w]
        rfl
       refine join_ (σ := Nat) 1 #[zB,zB,zB,zB,zB,zB,zB,zB,zB,zB,zB,zB,zF] (fun s_ => [(24, .agg #[.int .i64 t125, .string t126]), (4, .pointer (some ⟨s_, 0, none⟩))]) (fun s_ w' => (w'.cell? (ad123.add ((x3_1).toNat * 3)) = some (.string ((rd_T96 l0 x3_1).f0)) ∧ w'.cell? ⟨(ad123.add ((x3_1).toNat * 3)).block, (ad123.add ((x3_1).toNat * 3)).off + 1, none⟩ = some (.int .i64 ((rd_T96 l0 x3_1).f1)) ∧ w'.cell? ⟨(ad123.add ((x3_1).toNat * 3)).block, (ad123.add ((x3_1).toNat * 3)).off + 2, none⟩ = some (.string ((rd_T96 l0 x3_1).f2)) ∧ w'.cell? (ad123.add ((x3_1).toNat * 3)) = some (.string ((rd_T96 l0 x3_1).f0)) ∧ w'.cell? ⟨(ad123.add ((x3_1).toNat * 3)).block, (ad123.add ((x3_1).toNat * 3)).off + 1, none⟩ = some (.int .i64 ((rd_T96 l0 x3_1).f1)) ∧ w'.cell? ⟨(ad123.add ((x3_1).toNat * 3)).block, (ad123.add ((x3_1).toNat * 3)).off + 2, none⟩ = some (.string ((rd_T96 l0 x3_1).f2))) ∧ (w'.heap[s_]? = some (.cells #[.int .i64 0, .string (⟨#[]⟩ : ByteArray)] 36 (0, 0))) ∧ (w.heap.size ≤ s_) ∧ (w.heap.size ≤ s_) ∧ (Below w.heap.size w w')) ?_ ?_
       rotate_left
       ·
        intro hCont
        refine two_ (i := 10) (j := 11) (Ni := some 24) (Nj := some 4) #[zB,zB,zB,zB,zB,zB,zB,zB,zB,zB,zB,zF,zF] #[zB,zB,zB,zB,zB,zB,zB,zB,zB,zB,zF,zB,zF] rfl rfl rfl rfl (two_of HT_.out (by kernel_rfl)) (by decide) (by decide) (fun K hK => ?_) (fun K hK => ?_)
        ·
         skip
         refine goes_ Tryd.func67 (by kernel_rfl) rfl #[.int .i64 ((rd_T96 l0 x3_1).f1), .string ((rd_T96 l0 x3_1).f2)] (by rfl) rfl rfl (by (try simp only [List.map_toArray, List.map_cons, List.map_nil]); first | done | rfl | (simp only [List.length_drop, List.length_take]; rfl)) ?_
         with_reducible refine (spec_IdOf.calls k1 ((rd_T96 l0 x3_1).f1) ((rd_T96 l0 x3_1).f2) t125 t126 _ A5.out).mono ?_
         rintro e w50 ⟨rfl, hb⟩
         refine ⟨_, rfl, ?_⟩
         have n0_ := zK (below_step (by repeat (first | (with_reducible first | exact HB.out | apply zA | apply zN | apply zD) | exact HB.out)) hb)
         clear HB
         have HB := n0_
         clear n0_
         (try clear hb)
         (try clear hb2)
         (try clear hk)
         (try clear hi)
         refine hK.out _ _ ⟨((HB.out.cell (zL w _ hw123_0)).trans hw123_0), ((HB.out.cell (zL w _ hw123_1)).trans hw123_1), ((HB.out.cell (zL w _ hw123_2)).trans hw123_2), ((HB.out.cell (zL w _ hw124_0)).trans hw124_0), ((HB.out.cell (zL w _ hw124_1)).trans hw124_1), ((HB.out.cell (zL w _ hw124_2)).trans hw124_2)⟩ (fun hHeld => ?_)
         clear hK K
         refine norm_ (a' := ?_) ?_ ?_
         rotate_left
         ·
          show Act.put _ (some 24) _ = _
          simp only [Act.put, zS, zT, zU, i64_w, i32_w]
          rfl
         refine one_ (i := 11) (N := some 4) #[zB,zB,zB,zB,zB,zB,zB,zB,zB,zB,zB,zB,zF] rfl rfl (one_of HT_.out (by kernel_rfl)) (by decide) (fun K hK => ?_)
         refine box_step ?hg (N := 4) ?hd (cs := #[.int .i64 0, .string (⟨#[]⟩ : ByteArray)]) (t := 36) ?hr ?_; (case hd => rfl); (case hg => rfl); (case hr => first | (go_simp; done) | (go_simp; rfl))
         intro gb127 hg w51 hbox hb
         have n0_ := zK (below_step (by repeat (first | (with_reducible first | exact HB.out | apply zA | apply zN | apply zD) | exact HB.out)) hb)
         have n1_ := zK (hbox)
         have n2_ := zK ((by rw [hg]; exact (below_size (by repeat (first | (with_reducible first | exact HB.out | apply zA | apply zN | apply zD) | exact HB.out))) : w.heap.size ≤ gb127))
         have n3_ := zK ((by rw [hg]; exact (below_size (by repeat (first | (with_reducible first | exact HB.out | apply zA | apply zN | apply zD) | exact HB.out))) : w.heap.size ≤ gb127))
         clear HB
         have HB := n0_
         have BK127 := n1_
         have GW127 := n2_
         have GE127 := n3_
         clear n0_ n1_ n2_ n3_
         clear hb hbox hg
         refine hK.out _ _ ⟨((HB.out.cell (zL w _ hw123_0)).trans hw123_0), ((HB.out.cell (zL w _ hw123_1)).trans hw123_1), ((HB.out.cell (zL w _ hw123_2)).trans hw123_2), ((HB.out.cell (zL w _ hw124_0)).trans hw124_0), ((HB.out.cell (zL w _ hw124_1)).trans hw124_1), ((HB.out.cell (zL w _ hw124_2)).trans hw124_2)⟩ (fun hHeld => ?_)
         clear hK K
         refine norm_ (a' := ?_) ?_ ?_
         rotate_left
         ·
          show Act.put _ (some 4) _ = _
          simp only [Act.put, zS, zT, zU, i64_w, i32_w]
          rfl
         exact norm_ (by simp only [putAll, Act.put, zS, zT, zU]) (hCont (gb127) _ ⟨hHeld, (by (with_reducible repeat (first | refine zM ?_ _ | refine zP ?_ | refine zQ ?_ _)); exact BK127.out), GW127.out, GE127.out, (by repeat (first | (with_reducible first | exact HB.out | apply zA | apply zN | apply zD | refine below_set ?_ GE127.out) | exact HB.out))⟩)
        ·
         skip
         refine box_step ?hg (N := 4) ?hd (cs := #[.int .i64 0, .string (⟨#[]⟩ : ByteArray)]) (t := 36) ?hr ?_; (case hd => rfl); (case hg => rfl); (case hr => first | (go_simp; done) | (go_simp; rfl))
         intro gb127 hg w50 hbox hb
         have n0_ := zK (below_step (by repeat (first | (with_reducible first | exact HB.out | apply zA | apply zN | apply zD) | exact HB.out)) hb)
         have n1_ := zK (hbox)
         have n2_ := zK ((by rw [hg]; exact (below_size (by repeat (first | (with_reducible first | exact HB.out | apply zA | apply zN | apply zD) | exact HB.out))) : w.heap.size ≤ gb127))
         have n3_ := zK ((by rw [hg]; exact (below_size (by repeat (first | (with_reducible first | exact HB.out | apply zA | apply zN | apply zD) | exact HB.out))) : w.heap.size ≤ gb127))
         clear HB
         have HB := n0_
         have BK127 := n1_
         have GW127 := n2_
         have GE127 := n3_
         clear n0_ n1_ n2_ n3_
         clear hb hbox hg
         refine hK.out _ _ ⟨((HB.out.cell (zL w _ hw123_0)).trans hw123_0), ((HB.out.cell (zL w _ hw123_1)).trans hw123_1), ((HB.out.cell (zL w _ hw123_2)).trans hw123_2), ((HB.out.cell (zL w _ hw124_0)).trans hw124_0), ((HB.out.cell (zL w _ hw124_1)).trans hw124_1), ((HB.out.cell (zL w _ hw124_2)).trans hw124_2)⟩ (fun hHeld => ?_)
         clear hK K
         refine norm_ (a' := ?_) ?_ ?_
         rotate_left
         ·
          show Act.put _ (some 4) _ = _
          simp only [Act.put, zS, zT, zU, i64_w, i32_w]
          rfl
         refine one_ (i := 10) (N := some 24) #[zB,zB,zB,zB,zB,zB,zB,zB,zB,zB,zB,zB,zF] rfl rfl (one_of HT_.out (by kernel_rfl)) (by decide) (fun K hK => ?_)
         refine goes_ Tryd.func67 (by kernel_rfl) rfl #[.int .i64 ((rd_T96 l0 x3_1).f1), .string ((rd_T96 l0 x3_1).f2)] (by rfl) rfl rfl (by (try simp only [List.map_toArray, List.map_cons, List.map_nil]); first | done | rfl | (simp only [List.length_drop, List.length_take]; rfl)) ?_
         with_reducible refine (spec_IdOf.calls k1 ((rd_T96 l0 x3_1).f1) ((rd_T96 l0 x3_1).f2) t125 t126 _ A5.out).mono ?_
         rintro e w51 ⟨rfl, hb⟩
         refine ⟨_, rfl, ?_⟩
         have n0_ := zK (blk_below (g := gb127) (o := .cells #[.int .i64 0, .string (⟨#[]⟩ : ByteArray)] 36 (0, 0)) (by (with_reducible repeat (first | refine zM ?_ _ | refine zP ?_ | refine zQ ?_ _)); exact BK127.out) hb)
         have n1_ := zK (below_step (by repeat (first | (with_reducible first | exact HB.out | apply zA | apply zN | apply zD | refine below_set ?_ GE127.out) | exact HB.out)) hb)
         clear BK127
         clear HB
         have BK127 := n0_
         have HB := n1_
         clear n0_ n1_
         (try clear hb)
         (try clear hb2)
         (try clear hk)
         (try clear hi)
         refine hK.out _ _ ⟨((HB.out.cell (zL w _ hw123_0)).trans hw123_0), ((HB.out.cell (zL w _ hw123_1)).trans hw123_1), ((HB.out.cell (zL w _ hw123_2)).trans hw123_2), ((HB.out.cell (zL w _ hw124_0)).trans hw124_0), ((HB.out.cell (zL w _ hw124_1)).trans hw124_1), ((HB.out.cell (zL w _ hw124_2)).trans hw124_2)⟩ (fun hHeld => ?_)
         clear hK K
         refine norm_ (a' := ?_) ?_ ?_
         rotate_left
         ·
          show Act.put _ (some 24) _ = _
          simp only [Act.put, zS, zT, zU, i64_w, i32_w]
          rfl
         exact norm_ (by simp only [putAll, Act.put, zS, zT, zU]) (hCont (gb127) _ ⟨hHeld, (by (with_reducible repeat (first | refine zM ?_ _ | refine zP ?_ | refine zQ ?_ _)); exact BK127.out), GW127.out, GE127.out, (by repeat (first | (with_reducible first | exact HB.out | apply zA | apply zN | apply zD | refine below_set ?_ GE127.out) | exact HB.out))⟩)
       rintro gb127 w52 ⟨hS_, h0_, h1_, h2_, h3_⟩
       have n0_ : Aside0 (w52.heap[gb127]? = some (.cells #[.int .i64 0, .string (⟨#[]⟩ : ByteArray)] 36 (0, 0))) := ⟨h0_⟩
       have n1_ : Aside0 (w.heap.size ≤ gb127) := ⟨h1_⟩
       have n2_ : Aside0 (w.heap.size ≤ gb127) := ⟨h2_⟩
       have n3_ : Aside0 (Below w.heap.size w w52) := ⟨h3_⟩
       clear HB
       clear h0_ h1_ h2_ h3_
       have BK127 := n0_
       have GW127 := n1_
       have GE127 := n2_
       have HB := n3_
       clear n0_ n1_ n2_ n3_
       have hHeld : w52.cell? (ad123.add ((x3_1).toNat * 3)) = some (.string ((rd_T96 l0 x3_1).f0)) ∧ w52.cell? ⟨(ad123.add ((x3_1).toNat * 3)).block, (ad123.add ((x3_1).toNat * 3)).off + 1, none⟩ = some (.int .i64 ((rd_T96 l0 x3_1).f1)) ∧ w52.cell? ⟨(ad123.add ((x3_1).toNat * 3)).block, (ad123.add ((x3_1).toNat * 3)).off + 2, none⟩ = some (.string ((rd_T96 l0 x3_1).f2)) ∧ w52.cell? (ad123.add ((x3_1).toNat * 3)) = some (.string ((rd_T96 l0 x3_1).f0)) ∧ w52.cell? ⟨(ad123.add ((x3_1).toNat * 3)).block, (ad123.add ((x3_1).toNat * 3)).off + 1, none⟩ = some (.int .i64 ((rd_T96 l0 x3_1).f1)) ∧ w52.cell? ⟨(ad123.add ((x3_1).toNat * 3)).block, (ad123.add ((x3_1).toNat * 3)).off + 2, none⟩ = some (.string ((rd_T96 l0 x3_1).f2)) := hS_
       refine norm_ (a' := ?_) ?_ ?_
       rotate_left
       ·
        simp only [putAll, Act.put, zS, zT, zU]
        rfl
       refine one_ (i := 12) (N := none) #[zB,zB,zB,zB,zB,zB,zB,zB,zB,zB,zB,zB,zB] rfl rfl (one_of HT_.out (by kernel_rfl)) (by decide) (fun K hK => ?_)
       have hs53 : w52.cell? ⟨gb127, 0, none⟩ = some (.int .i64 0) := (blk_cell BK127.out 0).trans rfl
       have hfs53 := blk_frozen BK127.out 0
       have hs54 : w52.cell? ⟨gb127, 1, none⟩ = some (.string (⟨#[]⟩ : ByteArray)) := (blk_cell BK127.out 1).trans rfl
       have hfs54 := blk_frozen BK127.out 1
       refine skip_ (w1 := ?_) (by rfl) rfl ?_ ?_
       rotate_left
       ·
        go_simp
        rfl
       refine hK.out _ _ ⟨((cell_far (p := ⟨gb127, _, none⟩) (by first | exact Nat.ne_of_lt (Nat.lt_of_lt_of_le (by have := zL _ _ hw123_0; first | rwa [add_block] at this | exact this) GW127.out) | (rw [add_block]; exact Nat.ne_of_lt (Nat.lt_of_lt_of_le (by have := zL _ _ hw123_0; first | rwa [add_block] at this | exact this) GW127.out)) | (show (Addr.add _ _).block ≠ _; rw [add_block]; exact Nat.ne_of_lt (Nat.lt_of_lt_of_le (by have := zL _ _ hw123_0; first | rwa [add_block] at this | exact this) GW127.out)) | (dsimp only; exact Nat.ne_of_lt (Nat.lt_of_lt_of_le (by have := zL _ _ hw123_0; first | rwa [add_block] at this | exact this) GW127.out))) _).trans (((cell_far (p := ⟨gb127, _, none⟩) (by first | exact Nat.ne_of_lt (Nat.lt_of_lt_of_le (by have := zL _ _ hw123_0; first | rwa [add_block] at this | exact this) GW127.out) | (rw [add_block]; exact Nat.ne_of_lt (Nat.lt_of_lt_of_le (by have := zL _ _ hw123_0; first | rwa [add_block] at this | exact this) GW127.out)) | (show (Addr.add _ _).block ≠ _; rw [add_block]; exact Nat.ne_of_lt (Nat.lt_of_lt_of_le (by have := zL _ _ hw123_0; first | rwa [add_block] at this | exact this) GW127.out)) | (dsimp only; exact Nat.ne_of_lt (Nat.lt_of_lt_of_le (by have := zL _ _ hw123_0; first | rwa [add_block] at this | exact this) GW127.out))) _).trans (hHeld.1)))), ((cell_far (p := ⟨gb127, _, none⟩) (by first | exact Nat.ne_of_lt (Nat.lt_of_lt_of_le (by have := zL _ _ hw123_1; first | rwa [add_block] at this | exact this) GW127.out) | (rw [add_block]; exact Nat.ne_of_lt (Nat.lt_of_lt_of_le (by have := zL _ _ hw123_1; first | rwa [add_block] at this | exact this) GW127.out)) | (show (Addr.add _ _).block ≠ _; rw [add_block]; exact Nat.ne_of_lt (Nat.lt_of_lt_of_le (by have := zL _ _ hw123_1; first | rwa [add_block] at this | exact this) GW127.out)) | (dsimp only; exact Nat.ne_of_lt (Nat.lt_of_lt_of_le (by have := zL _ _ hw123_1; first | rwa [add_block] at this | exact this) GW127.out))) _).trans (((cell_far (p := ⟨gb127, _, none⟩) (by first | exact Nat.ne_of_lt (Nat.lt_of_lt_of_le (by have := zL _ _ hw123_1; first | rwa [add_block] at this | exact this) GW127.out) | (rw [add_block]; exact Nat.ne_of_lt (Nat.lt_of_lt_of_le (by have := zL _ _ hw123_1; first | rwa [add_block] at this | exact this) GW127.out)) | (show (Addr.add _ _).block ≠ _; rw [add_block]; exact Nat.ne_of_lt (Nat.lt_of_lt_of_le (by have := zL _ _ hw123_1; first | rwa [add_block] at this | exact this) GW127.out)) | (dsimp only; exact Nat.ne_of_lt (Nat.lt_of_lt_of_le (by have := zL _ _ hw123_1; first | rwa [add_block] at this | exact this) GW127.out))) _).trans (hHeld.2.1)))), ((cell_far (p := ⟨gb127, _, none⟩) (by first | exact Nat.ne_of_lt (Nat.lt_of_lt_of_le (by have := zL _ _ hw123_2; first | rwa [add_block] at this | exact this) GW127.out) | (rw [add_block]; exact Nat.ne_of_lt (Nat.lt_of_lt_of_le (by have := zL _ _ hw123_2; first | rwa [add_block] at this | exact this) GW127.out)) | (show (Addr.add _ _).block ≠ _; rw [add_block]; exact Nat.ne_of_lt (Nat.lt_of_lt_of_le (by have := zL _ _ hw123_2; first | rwa [add_block] at this | exact this) GW127.out)) | (dsimp only; exact Nat.ne_of_lt (Nat.lt_of_lt_of_le (by have := zL _ _ hw123_2; first | rwa [add_block] at this | exact this) GW127.out))) _).trans (((cell_far (p := ⟨gb127, _, none⟩) (by first | exact Nat.ne_of_lt (Nat.lt_of_lt_of_le (by have := zL _ _ hw123_2; first | rwa [add_block] at this | exact this) GW127.out) | (rw [add_block]; exact Nat.ne_of_lt (Nat.lt_of_lt_of_le (by have := zL _ _ hw123_2; first | rwa [add_block] at this | exact this) GW127.out)) | (show (Addr.add _ _).block ≠ _; rw [add_block]; exact Nat.ne_of_lt (Nat.lt_of_lt_of_le (by have := zL _ _ hw123_2; first | rwa [add_block] at this | exact this) GW127.out)) | (dsimp only; exact Nat.ne_of_lt (Nat.lt_of_lt_of_le (by have := zL _ _ hw123_2; first | rwa [add_block] at this | exact this) GW127.out))) _).trans (hHeld.2.2.1)))), ((cell_far (p := ⟨gb127, _, none⟩) (by first | exact Nat.ne_of_lt (Nat.lt_of_lt_of_le (by have := zL _ _ hw124_0; first | rwa [add_block] at this | exact this) GW127.out) | (rw [add_block]; exact Nat.ne_of_lt (Nat.lt_of_lt_of_le (by have := zL _ _ hw124_0; first | rwa [add_block] at this | exact this) GW127.out)) | (show (Addr.add _ _).block ≠ _; rw [add_block]; exact Nat.ne_of_lt (Nat.lt_of_lt_of_le (by have := zL _ _ hw124_0; first | rwa [add_block] at this | exact this) GW127.out)) | (dsimp only; exact Nat.ne_of_lt (Nat.lt_of_lt_of_le (by have := zL _ _ hw124_0; first | rwa [add_block] at this | exact this) GW127.out))) _).trans (((cell_far (p := ⟨gb127, _, none⟩) (by first | exact Nat.ne_of_lt (Nat.lt_of_lt_of_le (by have := zL _ _ hw124_0; first | rwa [add_block] at this | exact this) GW127.out) | (rw [add_block]; exact Nat.ne_of_lt (Nat.lt_of_lt_of_le (by have := zL _ _ hw124_0; first | rwa [add_block] at this | exact this) GW127.out)) | (show (Addr.add _ _).block ≠ _; rw [add_block]; exact Nat.ne_of_lt (Nat.lt_of_lt_of_le (by have := zL _ _ hw124_0; first | rwa [add_block] at this | exact this) GW127.out)) | (dsimp only; exact Nat.ne_of_lt (Nat.lt_of_lt_of_le (by have := zL _ _ hw124_0; first | rwa [add_block] at this | exact this) GW127.out))) _).trans (hHeld.2.2.2.1)))), ((cell_far (p := ⟨gb127, _, none⟩) (by first | exact Nat.ne_of_lt (Nat.lt_of_lt_of_le (by have := zL _ _ hw124_1; first | rwa [add_block] at this | exact this) GW127.out) | (rw [add_block]; exact Nat.ne_of_lt (Nat.lt_of_lt_of_le (by have := zL _ _ hw124_1; first | rwa [add_block] at this | exact this) GW127.out)) | (show (Addr.add _ _).block ≠ _; rw [add_block]; exact Nat.ne_of_lt (Nat.lt_of_lt_of_le (by have := zL _ _ hw124_1; first | rwa [add_block] at this | exact this) GW127.out)) | (dsimp only; exact Nat.ne_of_lt (Nat.lt_of_lt_of_le (by have := zL _ _ hw124_1; first | rwa [add_block] at this | exact this) GW127.out))) _).trans (((cell_far (p := ⟨gb127, _, none⟩) (by first | exact Nat.ne_of_lt (Nat.lt_of_lt_of_le (by have := zL _ _ hw124_1; first | rwa [add_block] at this | exact this) GW127.out) | (rw [add_block]; exact Nat.ne_of_lt (Nat.lt_of_lt_of_le (by have := zL _ _ hw124_1; first | rwa [add_block] at this | exact this) GW127.out)) | (show (Addr.add _ _).block ≠ _; rw [add_block]; exact Nat.ne_of_lt (Nat.lt_of_lt_of_le (by have := zL _ _ hw124_1; first | rwa [add_block] at this | exact this) GW127.out)) | (dsimp only; exact Nat.ne_of_lt (Nat.lt_of_lt_of_le (by have := zL _ _ hw124_1; first | rwa [add_block] at this | exact this) GW127.out))) _).trans (hHeld.2.2.2.2.1)))), ((cell_far (p := ⟨gb127, _, none⟩) (by first | exact Nat.ne_of_lt (Nat.lt_of_lt_of_le (by have := zL _ _ hw124_2; first | rwa [add_block] at this | exact this) GW127.out) | (rw [add_block]; exact Nat.ne_of_lt (Nat.lt_of_lt_of_le (by have := zL _ _ hw124_2; first | rwa [add_block] at this | exact this) GW127.out)) | (show (Addr.add _ _).block ≠ _; rw [add_block]; exact Nat.ne_of_lt (Nat.lt_of_lt_of_le (by have := zL _ _ hw124_2; first | rwa [add_block] at this | exact this) GW127.out)) | (dsimp only; exact Nat.ne_of_lt (Nat.lt_of_lt_of_le (by have := zL _ _ hw124_2; first | rwa [add_block] at this | exact this) GW127.out))) _).trans (((cell_far (p := ⟨gb127, _, none⟩) (by first | exact Nat.ne_of_lt (Nat.lt_of_lt_of_le (by have := zL _ _ hw124_2; first | rwa [add_block] at this | exact this) GW127.out) | (rw [add_block]; exact Nat.ne_of_lt (Nat.lt_of_lt_of_le (by have := zL _ _ hw124_2; first | rwa [add_block] at this | exact this) GW127.out)) | (show (Addr.add _ _).block ≠ _; rw [add_block]; exact Nat.ne_of_lt (Nat.lt_of_lt_of_le (by have := zL _ _ hw124_2; first | rwa [add_block] at this | exact this) GW127.out)) | (dsimp only; exact Nat.ne_of_lt (Nat.lt_of_lt_of_le (by have := zL _ _ hw124_2; first | rwa [add_block] at this | exact this) GW127.out))) _).trans (hHeld.2.2.2.2.2))))⟩ (fun hHeld => ?_)
       clear hK K
       refine done_ (done_of HT_.out (by kernel_rfl)) ?_
       have hcz55_0 : w52.cell? ⟨gb127, 0, none⟩ = some (.int .i64 0) := (blk_cell BK127.out 0).trans rfl
       have hcz55_1 : w52.cell? ⟨gb127, 1, none⟩ = some (.string (⟨#[]⟩ : ByteArray)) := (blk_cell BK127.out 1).trans rfl
       have hfz55_0 := blk_frozen BK127.out 0
       have hfz55_1 := blk_frozen BK127.out 1
       try go_wp2
       go_ret
       exact ⟨by first | rfl | (simp [errW_none, errW_some] <;> rfl) | (simp [*, errW_none, errW_some] <;> rfl), by repeat (first | (with_reducible first | exact HB.out | apply zA | apply zN | apply zD | refine below_set ?_ GE127.out) | exact HB.out)⟩
     ·
      rw [if_neg c4] at H
      exact absurd H (by simp)
    ·
     rw [if_neg c3] at H
     have c3b0 : decide (x3_1 < (l0.length : Int)) = false := decide_eq_false c3
     clear c3
     obtain rfl := Option.some.inj H
     go_wp2
     go_ret
     exact ⟨by first | rfl | (simp [errW_none, errW_some] <;> rfl) | (simp [*, errW_none, errW_some] <;> rfl), by repeat (first | (with_reducible first | exact HB.out | apply zA | apply zN | apply zD) | exact HB.out)⟩


/-! ### spec_l5Put: function 68 -/
def spec_l5Put.l0 : Nat → List (S96) → Int → ByteArray → ByteArray → Int → Option ((List (S96)) × ByteArray × Int)
 | 0, _, _, _, _, _ => none
 | k + 1, x0, x1, x2, x9, x11 => if x11 < (x0.length : Int) then (if 0 ≤ x11 then (if (Op.bytesLess (((rd_T96 x0 x11).f0).toList) x9.toList) = true then (spec_l5Put.l0 k x0 x1 x2 x9 (wrap64 (x11 + 1))) else (if x11 ≤ (x0.length : Int) then ((spec_l5Copy.f (x0.take (x11 : Int).toNat)).bind fun t149 => (if t149.length < 3518437208883 then ((some (t149 ++ [(⟨x9, x1, x2⟩ : S96)] : List (S96))).bind fun y152 => ((some (x0.drop (x11 : Int).toNat : List (S96))).bind fun y155 => (if y152.length + y155.length < 3518437208883 then (some ((y152 ++ y155), x9, 0)) else (none)))) else (none))) else (none))) else (none)) else (if 0 ≤ x11 then (if x11 ≤ (x0.length : Int) then ((spec_l5Copy.f (x0.take (x11 : Int).toNat)).bind fun t166 => (if t166.length < 3518437208883 then ((some (t166 ++ [(⟨x9, x1, x2⟩ : S96)] : List (S96))).bind fun y169 => ((some (x0.drop (x11 : Int).toNat : List (S96))).bind fun y172 => (if y169.length + y172.length < 3518437208883 then (some ((y169 ++ y172), x9, 0)) else (none)))) else (none))) else (none)) else (none))
def spec_l5Put.f (k : Nat) (l0 : List (S96)) (a1 : Int) (a2 : ByteArray) : Option ((List (S96)) × ByteArray × Int) := (spec_l5Id.f k a1 a2).bind fun t138 => ((spec_l5Find.f k l0 t138).bind fun t139 => (if t139 ≥ 0 then (if 0 ≤ t139 then (if t139 < (l0.length : Int) then (if ((rd_T96 l0 t139).f2).toList = a2.toList then ((spec_l5Copy.f l0).bind fun t141 => (some (t141, t138, 0))) else (some (([] : List (S96)), (⟨#[]⟩ : ByteArray), 6))) else (none)) else (none)) else (if (l0.length : Int) ≥ 200 then (some (([] : List (S96)), (⟨#[]⟩ : ByteArray), 2)) else (spec_l5Put.l0 k l0 a1 a2 t138 0))))
theorem spec_l5Put.mono_l : ∀ k, (∀ y0 y1 y2 y3 y4, LeO (spec_l5Put.l0 k y0 y1 y2 y3 y4) (spec_l5Put.l0 (k + 1) y0 y1 y2 y3 y4))
 | 0 => fun _ _ _ _ _ r h => by simp [spec_l5Put.l0] at h
 | k + 1 => by
  have ih0 := spec_l5Put.mono_l k
  ·
   intro y0 y1 y2 y3 y4
   unfold spec_l5Put.l0
   repeat' first
   | (with_reducible exact ih0 _ _ _ _ _)
   | (with_reducible exact spec_l5Find.mono _ _ _)
   | (with_reducible exact spec_l5Id.mono _ _ _)
   | (with_reducible exact LeO.refl _)
   | (with_reducible exact LeO.none _)
   | (with_reducible refine LeO.ite ?_ ?_)
   | (with_reducible refine LeO.bind ?_ (fun _ => ?_))
   | exact ih0 _ _ _ _ _
   | exact spec_l5Find.mono _ _ _
   | exact spec_l5Id.mono _ _ _
   | exact LeO.none _
   | refine LeO.ite ?_ ?_
   | refine LeO.bind ?_ (fun _ => ?_)
theorem spec_l5Put.mono : ∀ a0 a1 a2 k, LeO (spec_l5Put.f k a0 a1 a2) (spec_l5Put.f (k + 1) a0 a1 a2) := by
 intro a0 a1 a2 k
 have ih0 := spec_l5Put.mono_l k
 unfold spec_l5Put.f
 repeat' first
   | (with_reducible exact ih0 _ _ _ _ _)
   | (with_reducible exact spec_l5Find.mono _ _ _)
   | (with_reducible exact spec_l5Id.mono _ _ _)
   | (with_reducible exact LeO.refl _)
   | (with_reducible exact LeO.none _)
   | (with_reducible refine LeO.ite ?_ ?_)
   | (with_reducible refine LeO.bind ?_ (fun _ => ?_))
   | exact ih0 _ _ _ _ _
   | exact spec_l5Find.mono _ _ _
   | exact spec_l5Id.mono _ _ _
   | exact LeO.none _
   | refine LeO.ite ?_ ?_
   | refine LeO.bind ?_ (fun _ => ?_)
set_option maxHeartbeats 8000000 in
set_option maxRecDepth 100000 in
theorem spec_l5Put.calls (k : Nat) (A0 : Option Addr) (c0 : Nat) (l0 : List (S96)) (a1 : Int) (a2 : ByteArray) (r1 : List (S96)) (r2 : ByteArray) (r3 : Int) (w : World) (hr0 : Kd.C k96 w A0 l0.length l0) (hc0 : l0.length ≤ c0) (h : spec_l5Put.f k l0 a1 a2 = some (r1, r2, r3)) :
  Calls Tryd.prog 68 #[.slice A0 l0.length c0, .int .i64 a1, .string a2] w fun e w' => ∃ v0_ : Value, e = .returned (.tuple #[v0_, .string r2, .int .i64 r3]) ∧ Kd.R k96 96 w' w.heap.size (fun _ => True) v0_ r1 ∧ Below w.heap.size w w' := by
 have hu96 := Tryd.underlying96
 have HR0 := zK hr0
 have HC0 := zK hc0
 clear hr0 hc0
 have HB := zK (Below.refl w.heap.size w)
 have H : ((spec_l5Id.f k a1 a2).bind fun t138 => ((spec_l5Find.f k l0 t138).bind fun t139 => (if t139 ≥ 0 then (if 0 ≤ t139 then (if t139 < (l0.length : Int) then (if ((rd_T96 l0 t139).f2).toList = a2.toList then ((spec_l5Copy.f l0).bind fun t141 => (some (t141, t138, 0))) else (some (([] : List (S96)), (⟨#[]⟩ : ByteArray), 6))) else (none)) else (none)) else (if (l0.length : Int) ≥ 200 then (some (([] : List (S96)), (⟨#[]⟩ : ByteArray), 2)) else (spec_l5Put.l0 k l0 a1 a2 t138 0))))) = some (r1, r2, r3) := h
 clear h
 replace H := Option.bind_eq_some_iff.mp H
 obtain ⟨t138, A40, H⟩ := H
 replace H : ((spec_l5Find.f k l0 t138).bind fun t139 => (if t139 ≥ 0 then (if 0 ≤ t139 then (if t139 < (l0.length : Int) then (if ((rd_T96 l0 t139).f2).toList = a2.toList then ((spec_l5Copy.f l0).bind fun t141 => (some (t141, t138, 0))) else (some (([] : List (S96)), (⟨#[]⟩ : ByteArray), 6))) else (none)) else (none)) else (if (l0.length : Int) ≥ 200 then (some (([] : List (S96)), (⟨#[]⟩ : ByteArray), 2)) else (spec_l5Put.l0 k l0 a1 a2 t138 0)))) = some (r1, r2, r3) := H
 have A4 := zK A40
 clear A40
 replace H := Option.bind_eq_some_iff.mp H
 obtain ⟨t139, A50, H⟩ := H
 replace H : (if t139 ≥ 0 then (if 0 ≤ t139 then (if t139 < (l0.length : Int) then (if ((rd_T96 l0 t139).f2).toList = a2.toList then ((spec_l5Copy.f l0).bind fun t141 => (some (t141, t138, 0))) else (some (([] : List (S96)), (⟨#[]⟩ : ByteArray), 6))) else (none)) else (none)) else (if (l0.length : Int) ≥ 200 then (some (([] : List (S96)), (⟨#[]⟩ : ByteArray), 2)) else (spec_l5Put.l0 k l0 a1 a2 t138 0))) = some (r1, r2, r3) := H
 have A5 := zK A50
 clear A50
 by_cases c6 : t139 ≥ 0
 ·
  rw [if_pos c6] at H
  have c6b0 : decide (0 ≤ t139) = true := decide_eq_true c6
  clear c6
  by_cases c7 : 0 ≤ t139
  ·
   rw [if_pos c7] at H
   have c7b0 : decide (0 ≤ t139) = true := decide_eq_true c7
   clear c7
   by_cases c8 : t139 < (l0.length : Int)
   ·
    rw [if_pos c8] at H
    have c8b0 : decide (t139 < (l0.length : Int)) = true := decide_eq_true c8
    clear c8
    by_cases c9 : ((rd_T96 l0 t139).f2).toList = a2.toList
    ·
     rw [if_pos c9] at H
     have c9b0 : (((rd_T96 l0 t139).f2).toList == a2.toList) = true := beq_iff_eq.mpr c9
     have c9b1 : (((rd_T96 l0 t139).f2).toList != a2.toList) = false := bne_eq_false_iff_eq.mpr c9
     clear c9
     replace H := Option.bind_eq_some_iff.mp H
     obtain ⟨t141, A100, H⟩ := H
     replace H : (some (t141, t138, 0)) = some (r1, r2, r3) := H
     have A10 := zK A100
     clear A100
     simp only [Option.some.injEq, Prod.mk.injEq] at H
     obtain ⟨rfl, rfl, rfl⟩ := H
     go_enter Tryd.func68, Tryd.ntmps68
     go_wp2_with (first | ((with_reducible refine gate_callee (f := 118) rfl ?_); refine goesL_ (some 15) rfl rfl Tryd.func118 (by kernel_rfl) rfl #[.int .i64 a1, .string a2] rfl (by (try simp only [List.map_toArray, List.map_cons, List.map_nil]); first | done | rfl | (simp only [List.length_drop, List.length_take]; rfl)) ?_; (with_reducible refine (spec_l5Id.calls k a1 a2 t138 _ A4.out).mono ?_); rintro e w' ⟨rfl, ⟨nd, rfl⟩⟩; refine ⟨_, rfl, ?_⟩) | ((with_reducible refine gate_callee (f := 119) rfl ?_); refine goesL_ (some 18) rfl rfl Tryd.func119 (by kernel_rfl) rfl #[.slice A0 l0.length c0, .string t138] rfl (by (try simp only [List.map_toArray, List.map_cons, List.map_nil]); first | done | rfl | (simp only [List.length_drop, List.length_take]; rfl)) ?_; (with_reducible refine (spec_l5Find.calls k _ _ l0 t138 t139 _ ?side1 ?side2 A5.out).mono ?_); (case side1 => repeat (first | exact HR0.out | (with_reducible refine Kd.C_alloc ?_ _) | (with_reducible refine Kd.C_drewN ?_ _) | (with_reducible refine Kd.C_drew ?_))); (case side2 => exact HC0.out); rintro e w' ⟨rfl, ⟨nd, rfl⟩⟩; refine ⟨_, rfl, ?_⟩; have p140 : 0 ≤ (t139 : Int) := zX (by first | (with_reducible assumption) | assumption); have q140 : t139 < (l0.length : Int) := zX (by first | (with_reducible assumption) | assumption); obtain ⟨ad140, e140, hx140_0, hx140_1, hx140_2⟩ := at_T96 HR0.out t139 p140 q140; cases e140; replace p140 := eq_true p140; replace q140 := eq_true q140) | ((with_reducible refine gate_callee (f := 95) rfl ?_); refine goesL_ (some 29) rfl rfl Tryd.func95 (by kernel_rfl) rfl #[.slice (some ad140) l0.length c0] rfl (by (try simp only [List.map_toArray, List.map_cons, List.map_nil]); first | done | rfl | (simp only [List.length_drop, List.length_take]; rfl)) ?_; (with_reducible refine (spec_l5Copy.calls _ _ l0 t141 _ ?side1 ?side2 A10.out).mono ?_); (case side1 => repeat (first | exact HR0.out | (with_reducible refine Kd.C_alloc ?_ _) | (with_reducible refine Kd.C_drewN ?_ _) | (with_reducible refine Kd.C_drew ?_))); (case side2 => exact HC0.out); rintro e w11 ⟨v142, rfl, ho0, hb⟩; refine ⟨_, rfl, ?_⟩; have n0_ := zK (Kd.R_lower ho0 (below_size (by repeat (first | (with_reducible first | exact HB.out | apply zA | apply zN | apply zD) | exact HB.out)))); have n1_ := zK (below_step (by repeat (first | (with_reducible first | exact HB.out | apply zA | apply zN | apply zD) | exact HB.out)) hb); clear HB; have HO143 := n0_; have HB := n1_; clear n0_ n1_; (try clear hb); (try clear hb2); (try clear hk); (try clear hi); (try clear ho0)))
     go_ret3
     exact ⟨_, by first | rfl | (simp [errW_none, errW_some] <;> rfl) | (simp [*, errW_none, errW_some] <;> rfl), by (with_reducible repeat (first | apply zR | apply zV | apply zW)); exact HO143.out, by repeat (first | (with_reducible first | exact HB.out | apply zA | apply zN | apply zD) | exact HB.out)⟩
    ·
     rw [if_neg c9] at H
     have c9b0 : (((rd_T96 l0 t139).f2).toList == a2.toList) = false := beq_eq_false_iff_ne.mpr c9
     have c9b1 : (((rd_T96 l0 t139).f2).toList != a2.toList) = true := bne_iff_ne.mpr c9
     simp only [Option.some.injEq, Prod.mk.injEq] at H
     obtain ⟨rfl, rfl, rfl⟩ := H
     go_enter Tryd.func68, Tryd.ntmps68
     go_wp2_with (first | ((with_reducible refine gate_callee (f := 118) rfl ?_); refine goesL_ (some 15) rfl rfl Tryd.func118 (by kernel_rfl) rfl #[.int .i64 a1, .string a2] rfl (by (try simp only [List.map_toArray, List.map_cons, List.map_nil]); first | done | rfl | (simp only [List.length_drop, List.length_take]; rfl)) ?_; (with_reducible refine (spec_l5Id.calls k a1 a2 t138 _ A4.out).mono ?_); rintro e w' ⟨rfl, ⟨nd, rfl⟩⟩; refine ⟨_, rfl, ?_⟩) | ((with_reducible refine gate_callee (f := 119) rfl ?_); refine goesL_ (some 18) rfl rfl Tryd.func119 (by kernel_rfl) rfl #[.slice A0 l0.length c0, .string t138] rfl (by (try simp only [List.map_toArray, List.map_cons, List.map_nil]); first | done | rfl | (simp only [List.length_drop, List.length_take]; rfl)) ?_; (with_reducible refine (spec_l5Find.calls k _ _ l0 t138 t139 _ ?side1 ?side2 A5.out).mono ?_); (case side1 => repeat (first | exact HR0.out | (with_reducible refine Kd.C_alloc ?_ _) | (with_reducible refine Kd.C_drewN ?_ _) | (with_reducible refine Kd.C_drew ?_))); (case side2 => exact HC0.out); rintro e w' ⟨rfl, ⟨nd, rfl⟩⟩; refine ⟨_, rfl, ?_⟩; have p140 : 0 ≤ (t139 : Int) := zX (by first | (with_reducible assumption) | assumption); have q140 : t139 < (l0.length : Int) := zX (by first | (with_reducible assumption) | assumption); obtain ⟨ad140, e140, hx140_0, hx140_1, hx140_2⟩ := at_T96 HR0.out t139 p140 q140; cases e140; replace p140 := eq_true p140; replace q140 := eq_true q140))
     go_ret3
     exact ⟨_, by first | rfl | (simp [errW_none, errW_some] <;> rfl) | (simp [*, errW_none, errW_some] <;> rfl), by first | exact Kd.R_nil _ _ _ _ _ | exact Kd.N_nil _ _ _ _ _ | exact Kd.V_nil _ _ _ _ _ | exact Kd.Q_nil _ _ _ _ _ | exact Kd.S_nil _ _ _ _ _, by repeat (first | (with_reducible first | exact HB.out | apply zA | apply zN | apply zD) | exact HB.out)⟩
   ·
    rw [if_neg c8] at H
    exact absurd H (by simp)
  ·
   rw [if_neg c7] at H
   exact absurd H (by simp)
 ·
  rw [if_neg c6] at H
  have c6b0 : decide (0 ≤ t139) = false := decide_eq_false c6
  clear c6
  by_cases c12 : (l0.length : Int) ≥ 200
  ·
   rw [if_pos c12] at H
   have c12b0 : decide (200 ≤ (l0.length : Int)) = true := decide_eq_true c12
   have c12b1 : decide (200 ≤ l0.length) = true := decide_eq_true (by omega)
   clear c12
   simp only [Option.some.injEq, Prod.mk.injEq] at H
   obtain ⟨rfl, rfl, rfl⟩ := H
   go_enter Tryd.func68, Tryd.ntmps68
   go_wp2_with (first | ((with_reducible refine gate_callee (f := 118) rfl ?_); refine goesL_ (some 15) rfl rfl Tryd.func118 (by kernel_rfl) rfl #[.int .i64 a1, .string a2] rfl (by (try simp only [List.map_toArray, List.map_cons, List.map_nil]); first | done | rfl | (simp only [List.length_drop, List.length_take]; rfl)) ?_; (with_reducible refine (spec_l5Id.calls k a1 a2 t138 _ A4.out).mono ?_); rintro e w' ⟨rfl, ⟨nd, rfl⟩⟩; refine ⟨_, rfl, ?_⟩) | ((with_reducible refine gate_callee (f := 119) rfl ?_); refine goesL_ (some 18) rfl rfl Tryd.func119 (by kernel_rfl) rfl #[.slice A0 l0.length c0, .string t138] rfl (by (try simp only [List.map_toArray, List.map_cons, List.map_nil]); first | done | rfl | (simp only [List.length_drop, List.length_take]; rfl)) ?_; (with_reducible refine (spec_l5Find.calls k _ _ l0 t138 t139 _ ?side1 ?side2 A5.out).mono ?_); (case side1 => repeat (first | exact HR0.out | (with_reducible refine Kd.C_alloc ?_ _) | (with_reducible refine Kd.C_drewN ?_ _) | (with_reducible refine Kd.C_drew ?_))); (case side2 => exact HC0.out); rintro e w' ⟨rfl, ⟨nd, rfl⟩⟩; refine ⟨_, rfl, ?_⟩))
   go_ret3
   exact ⟨_, by first | rfl | (simp [errW_none, errW_some] <;> rfl) | (simp [*, errW_none, errW_some] <;> rfl), by first | exact Kd.R_nil _ _ _ _ _ | exact Kd.N_nil _ _ _ _ _ | exact Kd.V_nil _ _ _ _ _ | exact Kd.Q_nil _ _ _ _ _ | exact Kd.S_nil _ _ _ _ _, by repeat (first | (with_reducible first | exact HB.out | apply zA | apply zN | apply zD) | exact HB.out)⟩
  ·
   rw [if_neg c12] at H
   have c12b0 : decide (200 ≤ (l0.length : Int)) = false := decide_eq_false c12
   have c12b1 : decide (200 ≤ l0.length) = false := decide_eq_false (by omega)
   clear c12
   have H' := zK H
   clear H
   go_enter Tryd.func68, Tryd.ntmps68
   go_wp2_with (first | ((with_reducible refine gate_callee (f := 118) rfl ?_); refine goesL_ (some 15) rfl rfl Tryd.func118 (by kernel_rfl) rfl #[.int .i64 a1, .string a2] rfl (by (try simp only [List.map_toArray, List.map_cons, List.map_nil]); first | done | rfl | (simp only [List.length_drop, List.length_take]; rfl)) ?_; (with_reducible refine (spec_l5Id.calls k a1 a2 t138 _ A4.out).mono ?_); rintro e w' ⟨rfl, ⟨nd, rfl⟩⟩; refine ⟨_, rfl, ?_⟩) | ((with_reducible refine gate_callee (f := 119) rfl ?_); refine goesL_ (some 18) rfl rfl Tryd.func119 (by kernel_rfl) rfl #[.slice A0 l0.length c0, .string t138] rfl (by (try simp only [List.map_toArray, List.map_cons, List.map_nil]); first | done | rfl | (simp only [List.length_drop, List.length_take]; rfl)) ?_; (with_reducible refine (spec_l5Find.calls k _ _ l0 t138 t139 _ ?side1 ?side2 A5.out).mono ?_); (case side1 => repeat (first | exact HR0.out | (with_reducible refine Kd.C_alloc ?_ _) | (with_reducible refine Kd.C_drewN ?_ _) | (with_reducible refine Kd.C_drew ?_))); (case side2 => exact HC0.out); rintro e w' ⟨rfl, ⟨nd, rfl⟩⟩; refine ⟨_, rfl, ?_⟩))
   go_loopg [11] k (fun kq v11 w' => ∃ (x11_1 : Int), v11 = .int .i64 x11_1 ∧ Aside0 (spec_l5Put.l0 kq l0 a1 a2 t138 x11_1 = some (r1, r2, r3)) ∧ Aside0 (kq ≤ k) ∧ Aside0 (Below w.heap.size w w'))
   case atStart => exact ⟨(0), (by first | rfl | (simp; done) | (simp [*]; done)), H', ⟨Nat.le_refl _⟩, ⟨by repeat (first | (with_reducible first | exact HB.out | apply zA | apply zN | apply zD) | exact HB.out)⟩⟩
   case round =>
    clear H'
    try clear c1
    try clear p1
    try clear q1
    try clear hx1
    try clear p2
    try clear c6
    try clear c6b0
    try clear c7
    try clear c7b0
    try clear c8
    try clear c8b0
    try clear c9
    try clear c9b0
    try clear c9b1
    try clear c11
    try clear c12
    try clear c12b0
    try clear c12b1
    try clear hx140_0
    try clear hx140_1
    try clear hx140_2
    try clear p140
    try clear q140
    obtain ⟨x11_1, rfl, HA, HK1, HB⟩ := hrel
    cases gk with
    | zero => exact absurd HA.out (by simp [spec_l5Put.l0])
    | succ k1 =>
     have H := HA.out
     clear HA
     simp only [spec_l5Put.l0] at H
     by_cases c13 : x11_1 < (l0.length : Int)
     ·
      rw [if_pos c13] at H
      have c13b0 : decide (x11_1 < (l0.length : Int)) = true := decide_eq_true c13
      clear c13
      by_cases c14 : 0 ≤ x11_1
      ·
       rw [if_pos c14] at H
       have c14b0 : decide (0 ≤ x11_1) = true := decide_eq_true c14
       clear c14
       by_cases c15 : (Op.bytesLess (((rd_T96 l0 x11_1).f0).toList) t138.toList) = true
       ·
        rw [if_pos c15] at H
        have c15b0 : (Op.bytesLess (((rd_T96 l0 x11_1).f0).toList) t138.toList) = true := c15
        clear c15
        have H' := zK H
        clear H
        have p144 : 0 ≤ (x11_1 : Int) := zX (by first | (with_reducible assumption) | assumption)
        have q144 : x11_1 < (l0.length : Int) := zX (by first | (with_reducible assumption) | assumption)
        obtain ⟨ad144, e144, hx144_0, hx144_1, hx144_2⟩ := at_T96 HR0.out x11_1 p144 q144
        cases e144
        replace hx144_0 := (HB.out.cell (zL w _ hx144_0)).trans hx144_0
        replace hx144_1 := (HB.out.cell (zL w _ hx144_1)).trans hx144_1
        replace hx144_2 := (HB.out.cell (zL w _ hx144_2)).trans hx144_2
        replace p144 := eq_true p144
        replace q144 := eq_true q144
        go_wp2
        go_roundg k1
        case measure => have := HK1.out; omega
        case rel => exact ⟨(wrap64 (x11_1 + 1)), (by first | rfl | (simp; done) | (simp [*]; done)), H', ⟨by have := HK1.out; omega⟩, ⟨by repeat (first | (with_reducible first | exact HB.out | apply zA | apply zN | apply zD) | exact HB.out)⟩⟩
       ·
        rw [if_neg c15] at H
        have c15b0 : (Op.bytesLess (((rd_T96 l0 x11_1).f0).toList) t138.toList) = false := by simpa using c15
        clear c15
        have c16b0 := eq_true (zX (by first | (with_reducible assumption) | assumption) : 0 ≤ x11_1)
        by_cases c17 : x11_1 ≤ (l0.length : Int)
        ·
         rw [if_pos c17] at H
         have c17b0 := eq_true c17
         have c17b1 : decide (x11_1 ≤ (l0.length : Int)) = true := decide_eq_true c17
         clear c17
         obtain ⟨y145, hy145⟩ : ∃ y_ : List (S96), y_ = (l0.take (x11_1 : Int).toNat) := ⟨_, rfl⟩
         replace H : ((spec_l5Copy.f y145).bind fun t149 => (if t149.length < 3518437208883 then ((some (t149 ++ [(⟨t138, a1, a2⟩ : S96)] : List (S96))).bind fun y152 => ((some (l0.drop (x11_1 : Int).toNat : List (S96))).bind fun y155 => (if y152.length + y155.length < 3518437208883 then (some ((y152 ++ y155), t138, 0)) else (none)))) else (none))) = some (r1, r2, r3) := by first | (rw [hy145]; with_reducible exact H) | (have H2_ := (Option.bind_some _ _).symm.trans H; rw [hy145]; with_reducible exact H2_) | (have H2_ := (Option.bind_some _ _).symm.trans H; with_reducible exact H2_) | with_reducible exact H | (rw [hy145]; exact H) | exact H
         have Ny145 := zK hy145
         clear hy145
         replace H := Option.bind_eq_some_iff.mp H
         obtain ⟨t149, A180, H⟩ := H
         replace H : (if t149.length < 3518437208883 then ((some (t149 ++ [(⟨t138, a1, a2⟩ : S96)] : List (S96))).bind fun y152 => ((some (l0.drop (x11_1 : Int).toNat : List (S96))).bind fun y155 => (if y152.length + y155.length < 3518437208883 then (some ((y152 ++ y155), t138, 0)) else (none)))) else (none)) = some (r1, r2, r3) := H
         have A18 := zK A180
         clear A180
         by_cases c19 : t149.length < 3518437208883
         ·
          rw [if_pos c19] at H
          have LMc19 := zK c19
          clear c19
          obtain ⟨y152, hy152⟩ : ∃ y_ : List (S96), y_ = (t149 ++ [(⟨t138, a1, a2⟩ : S96)]) := ⟨_, rfl⟩
          replace H : ((some (l0.drop (x11_1 : Int).toNat : List (S96))).bind fun y155 => (if y152.length + y155.length < 3518437208883 then (some ((y152 ++ y155), t138, 0)) else (none))) = some (r1, r2, r3) := by first | (rw [hy152]; with_reducible exact H) | (have H2_ := (Option.bind_some _ _).symm.trans H; rw [hy152]; with_reducible exact H2_) | (have H2_ := (Option.bind_some _ _).symm.trans H; with_reducible exact H2_) | with_reducible exact H | (rw [hy152]; exact H) | exact H
          have Ny152 := zK hy152
          clear hy152
          have c20b0 := eq_true (zX (by first | (with_reducible assumption) | assumption) : 0 ≤ x11_1)
          have c21b0 := eq_true (zX (by first | (with_reducible assumption) | assumption) : x11_1 ≤ (l0.length : Int))
          obtain ⟨y155, hy155⟩ : ∃ y_ : List (S96), y_ = (l0.drop (x11_1 : Int).toNat) := ⟨_, rfl⟩
          replace H : (if y152.length + y155.length < 3518437208883 then (some ((y152 ++ y155), t138, 0)) else (none)) = some (r1, r2, r3) := by first | (rw [hy155]; with_reducible exact H) | (have H2_ := (Option.bind_some _ _).symm.trans H; rw [hy155]; with_reducible exact H2_) | (have H2_ := (Option.bind_some _ _).symm.trans H; with_reducible exact H2_) | with_reducible exact H | (rw [hy155]; exact H) | exact H
          have Ny155 := zK hy155
          clear hy155
          by_cases c22 : y152.length + y155.length < 3518437208883
          ·
           rw [if_pos c22] at H
           have LMc22 := zK c22
           clear c22
           obtain ⟨y159, hy159⟩ : ∃ y_ : List (S96), y_ = (y152 ++ y155) := ⟨_, rfl⟩
           replace H : (some (y159, t138, 0)) = some (r1, r2, r3) := by first | (rw [hy159]; with_reducible exact H) | (have H2_ := (Option.bind_some _ _).symm.trans H; rw [hy159]; with_reducible exact H2_) | (have H2_ := (Option.bind_some _ _).symm.trans H; with_reducible exact H2_) | with_reducible exact H | (rw [hy159]; exact H) | exact H
           have Ny159 := zK hy159
           clear hy159
           simp only [Option.some.injEq, Prod.mk.injEq] at H
           obtain ⟨rfl, rfl, rfl⟩ := H
           have p144 : 0 ≤ (x11_1 : Int) := zX (by first | (with_reducible assumption) | assumption)
           have q144 : x11_1 < (l0.length : Int) := zX (by first | (with_reducible assumption) | assumption)
           obtain ⟨ad144, e144, hx144_0, hx144_1, hx144_2⟩ := at_T96 HR0.out x11_1 p144 q144
           cases e144
           replace hx144_0 := (HB.out.cell (zL w _ hx144_0)).trans hx144_0
           replace hx144_1 := (HB.out.cell (zL w _ hx144_1)).trans hx144_1
           replace hx144_2 := (HB.out.cell (zL w _ hx144_2)).trans hx144_2
           replace p144 := eq_true p144
           replace q144 := eq_true q144
           have q23 : (x11_1 : Int) ≤ ((l0.length : Int) : Int) := zX (by first | (with_reducible assumption) | assumption)
           obtain ⟨i023, hi023, _, hsz23, _⟩ := info_parts info96
           have hroom23 : l0.length ≤ c0 := HC0.out
           have hC23 : Kd.C k96 _ (some ad144) l0.length l0 := HR0.out
           have hcut23 := cut_to (P := Tryd.prog) 41 96 .i64 Tryd.underlying41 hi023 (some ad144) l0.length c0 x11_1 (zX (by first | (with_reducible assumption) | assumption)) q23 hroom23
           have hr23 := Kd.C_take (m := (x11_1 : Int).toNat) hC23 (by omega)
           have hy23 : y145.length = (x11_1 : Int).toNat := (by rw [Ny145.out, List.length_take]; omega)
           rw [← Ny145.out] at hr23
           rw [← hy23] at hcut23
           have HR148 := zK hr23
           have HC148 := zK (show y145.length ≤ c0 from by omega)
           clear hr23 hC23 hroom23 hi023 hsz23
           have KY23 := zK hy23
           clear hy23
           replace q23 := eq_true q23
           go_wp2_with (first | ((with_reducible refine gate_callee (f := 95) rfl ?_); refine goesL_ (some 52) rfl rfl Tryd.func95 (by kernel_rfl) rfl #[.slice (some ad144) y145.length c0] rfl (by (try simp only [List.map_toArray, List.map_cons, List.map_nil]); first | done | rfl | (simp only [List.length_drop, List.length_take]; rfl)) ?_; (with_reducible refine (spec_l5Copy.calls _ _ y145 t149 _ ?side1 ?side2 A18.out).mono ?_); (case side1 => repeat (first | exact (Kd.C_below HR148.out HB.out) | (with_reducible refine Kd.C_alloc ?_ _) | (with_reducible refine Kd.C_drewN ?_ _) | (with_reducible refine Kd.C_drew ?_))); (case side2 => exact HC148.out); rintro e w24 ⟨v150, rfl, ho0, hb⟩; refine ⟨_, rfl, ?_⟩; have n0_ := zK (Kd.R_lower ho0 (below_size (by repeat (first | (with_reducible first | exact HB.out | apply zA | apply zN | apply zD) | exact HB.out)))); have n1_ := zK (below_step (by repeat (first | (with_reducible first | exact HB.out | apply zA | apply zN | apply zD) | exact HB.out)) hb); clear HB; have HO151 := n0_; have HB := n1_; clear n0_ n1_; (try clear hb); (try clear hb2); (try clear hk); (try clear hi); (try clear ho0)) | ((with_reducible refine gate_builtin (b := .append) (xs := #[.tmp 52, .tmp 57]) rfl ?_); at_builtin; refine Kd.R_append k96 (w0 := w) w.heap.size rfl (.tmp 52) (.tmp 57) 41 96 (.agg #[(.string ⟨#[]⟩), (.int .i64 0), (.string ⟨#[]⟩)]) 40 rfl Tryd.underlying41 info96 rfl (by decide) (by omega) v150 t149 (⟨t138, a1, a2⟩ : S96) [.string t138, .int .i64 a1, .string a2] (fun _ => True) (fun _ => False) rfl rfl ?aP (fun _ hk => hk.elim) ?aF ?aO ?aB ?aS ?aL ?_; (case aP => exact k96_mkM _ _ _ (⟨t138, a1, a2⟩ : S96)); (case aB => exact (by repeat (first | (with_reducible first | exact HB.out | apply zA | apply zN | apply zD) | exact HB.out))); (case aF => exact (fun _ _ => trivial)); (case aO => exact (by (with_reducible repeat (first | apply zR | apply zV | apply zW)); exact HO151.out)); (case aS => exact (below_size (by repeat (first | (with_reducible first | exact HB.out | apply zA | apply zN | apply zD) | exact HB.out)))); (case aL => have := LMc19.out; omega); intro v153 w25 ho hb hg hat; rw [← Ny152.out] at ho; have n0_ := zK (hb); have n1_ := zK (ho); clear HB; clear HO151; have HB := n0_; have HO154 := n1_; clear n0_ n1_; clear ho hb hg hat; have q26 : (x11_1 : Int) ≤ ((l0.length : Int) : Int) := zX (by first | (with_reducible assumption) | assumption); obtain ⟨i026, hi026, _, hsz26, _⟩ := info_parts info96; have hroom26 : l0.length ≤ c0 := HC0.out; have hC26 : Kd.C k96 _ (some ad144) l0.length l0 := HR0.out; have q026 : (0 : Int) ≤ (x11_1 : Int) := zX (by first | (with_reducible assumption) | assumption); have hcut26 := cut_from (P := Tryd.prog) 41 96 .i64 Tryd.underlying41 hi026 3 hsz26 (some ad144) l0.length c0 x11_1 q026 q26; have hr26 := Kd.C_drop (m := (x11_1 : Int).toNat) (c := c0) hC26 (by omega) hroom26; obtain ⟨A26, hA26⟩ : ∃ A1, A1 = (if c0 = (x11_1 : Int).toNat then (some ad144) else ((some ad144) : Option Addr).map (·.add ((x11_1 : Int).toNat * 3))) := ⟨_, rfl⟩; obtain ⟨c26, hc26⟩ : ∃ c1, c1 = c0 - (x11_1 : Int).toNat := ⟨_, rfl⟩; have hy26 : y155.length = l0.length - (x11_1 : Int).toNat := (by rw [Ny155.out, List.length_drop] <;> omega); rw [show (l0).drop (x11_1 : Int).toNat = y155 from Ny155.out.symm] at hr26; replace hr26 : Kd.C k96 _ A26 y155.length y155 := (by rw [hA26]; exact hr26); rw [← hy26, ← hA26, ← hc26] at hcut26; have HR158 := zK hr26; have HC158 := zK (show y155.length ≤ c26 from by rw [hy26, hc26]; exact Nat.sub_le_sub_right hroom26 _); clear hr26 hC26 hroom26 hi026 hsz26 hc26; have KY26 := zK hy26; have KA26 := zK hA26; clear hy26 hA26; replace q26 := eq_true q26) | ((with_reducible refine gate_builtin (b := .append) (xs := #[.tmp 59, .tmp 62]) rfl ?_); at_builtin; refine Kd.R_append_rows k96 (w0 := w) w.heap.size rfl (.tmp 59) (.tmp 62) 41 96 (.agg #[(.string ⟨#[]⟩), (.int .i64 0), (.string ⟨#[]⟩)]) 40 rfl Tryd.underlying41 info96 rfl (by decide) (by omega) v153 y152 y155 _ _ _ (fun _ => True) (fun _ => False) rfl rfl ?aO ?aR (fun _ _ h => h) (fun _ h => h.elim) ?aF ?aB ?aS ?aL ?_; (case aR => repeat (first | exact (Kd.C_below HR158.out HB.out) | (with_reducible refine Kd.C_alloc ?_ _) | (with_reducible refine Kd.C_drewN ?_ _) | (with_reducible refine Kd.C_drew ?_))); (case aB => exact (by repeat (first | (with_reducible first | exact HB.out | apply zA | apply zN | apply zD) | exact HB.out))); (case aF => exact (fun _ _ => trivial)); (case aO => exact (by (with_reducible repeat (first | apply zR | apply zV | apply zW)); exact HO154.out)); (case aS => exact (below_size (by repeat (first | (with_reducible first | exact HB.out | apply zA | apply zN | apply zD) | exact HB.out)))); (case aL => have := LMc22.out; omega); intro v160 w27 ho hb hg hat; rw [← Ny159.out] at ho; have n0_ := zK (hb); have n1_ := zK (ho); clear HB; clear HO154; have HB := n0_; have HO161 := n1_; clear n0_ n1_; clear ho hb hg hat))
           go_ret3
           exact ⟨_, by first | rfl | (simp [errW_none, errW_some] <;> rfl) | (simp [*, errW_none, errW_some] <;> rfl), by (with_reducible repeat (first | apply zR | apply zV | apply zW)); exact HO161.out, by repeat (first | (with_reducible first | exact HB.out | apply zA | apply zN | apply zD) | exact HB.out)⟩
          ·
           rw [if_neg c22] at H
           exact absurd H (by simp)
         ·
          rw [if_neg c19] at H
          exact absurd H (by simp)
        ·
         rw [if_neg c17] at H
         exact absurd H (by simp)
      ·
       rw [if_neg c14] at H
       exact absurd H (by simp)
     ·
      rw [if_neg c13] at H
      have c13b0 : decide (x11_1 < (l0.length : Int)) = false := decide_eq_false c13
      clear c13
      by_cases c28 : 0 ≤ x11_1
      ·
       rw [if_pos c28] at H
       have c28b0 := eq_true c28
       have c28b1 : decide (0 ≤ x11_1) = true := decide_eq_true c28
       clear c28
       by_cases c29 : x11_1 ≤ (l0.length : Int)
       ·
        rw [if_pos c29] at H
        have c29b0 := eq_true c29
        have c29b1 : decide (x11_1 ≤ (l0.length : Int)) = true := decide_eq_true c29
        clear c29
        obtain ⟨y162, hy162⟩ : ∃ y_ : List (S96), y_ = (l0.take (x11_1 : Int).toNat) := ⟨_, rfl⟩
        replace H : ((spec_l5Copy.f y162).bind fun t166 => (if t166.length < 3518437208883 then ((some (t166 ++ [(⟨t138, a1, a2⟩ : S96)] : List (S96))).bind fun y169 => ((some (l0.drop (x11_1 : Int).toNat : List (S96))).bind fun y172 => (if y169.length + y172.length < 3518437208883 then (some ((y169 ++ y172), t138, 0)) else (none)))) else (none))) = some (r1, r2, r3) := by first | (rw [hy162]; with_reducible exact H) | (have H2_ := (Option.bind_some _ _).symm.trans H; rw [hy162]; with_reducible exact H2_) | (have H2_ := (Option.bind_some _ _).symm.trans H; with_reducible exact H2_) | with_reducible exact H | (rw [hy162]; exact H) | exact H
        have Ny162 := zK hy162
        clear hy162
        replace H := Option.bind_eq_some_iff.mp H
        obtain ⟨t166, A300, H⟩ := H
        replace H : (if t166.length < 3518437208883 then ((some (t166 ++ [(⟨t138, a1, a2⟩ : S96)] : List (S96))).bind fun y169 => ((some (l0.drop (x11_1 : Int).toNat : List (S96))).bind fun y172 => (if y169.length + y172.length < 3518437208883 then (some ((y169 ++ y172), t138, 0)) else (none)))) else (none)) = some (r1, r2, r3) := H
        have A30 := zK A300
        clear A300
        by_cases c31 : t166.length < 3518437208883
        ·
         rw [if_pos c31] at H
         have LMc31 := zK c31
         clear c31
         obtain ⟨y169, hy169⟩ : ∃ y_ : List (S96), y_ = (t166 ++ [(⟨t138, a1, a2⟩ : S96)]) := ⟨_, rfl⟩
         replace H : ((some (l0.drop (x11_1 : Int).toNat : List (S96))).bind fun y172 => (if y169.length + y172.length < 3518437208883 then (some ((y169 ++ y172), t138, 0)) else (none))) = some (r1, r2, r3) := by first | (rw [hy169]; with_reducible exact H) | (have H2_ := (Option.bind_some _ _).symm.trans H; rw [hy169]; with_reducible exact H2_) | (have H2_ := (Option.bind_some _ _).symm.trans H; with_reducible exact H2_) | with_reducible exact H | (rw [hy169]; exact H) | exact H
         have Ny169 := zK hy169
         clear hy169
         have c32b0 := eq_true (zX (by first | (with_reducible assumption) | assumption) : 0 ≤ x11_1)
         have c33b0 := eq_true (zX (by first | (with_reducible assumption) | assumption) : x11_1 ≤ (l0.length : Int))
         obtain ⟨y172, hy172⟩ : ∃ y_ : List (S96), y_ = (l0.drop (x11_1 : Int).toNat) := ⟨_, rfl⟩
         replace H : (if y169.length + y172.length < 3518437208883 then (some ((y169 ++ y172), t138, 0)) else (none)) = some (r1, r2, r3) := by first | (rw [hy172]; with_reducible exact H) | (have H2_ := (Option.bind_some _ _).symm.trans H; rw [hy172]; with_reducible exact H2_) | (have H2_ := (Option.bind_some _ _).symm.trans H; with_reducible exact H2_) | with_reducible exact H | (rw [hy172]; exact H) | exact H
         have Ny172 := zK hy172
         clear hy172
         by_cases c34 : y169.length + y172.length < 3518437208883
         ·
          rw [if_pos c34] at H
          have LMc34 := zK c34
          clear c34
          obtain ⟨y176, hy176⟩ : ∃ y_ : List (S96), y_ = (y169 ++ y172) := ⟨_, rfl⟩
          replace H : (some (y176, t138, 0)) = some (r1, r2, r3) := by first | (rw [hy176]; with_reducible exact H) | (have H2_ := (Option.bind_some _ _).symm.trans H; rw [hy176]; with_reducible exact H2_) | (have H2_ := (Option.bind_some _ _).symm.trans H; with_reducible exact H2_) | with_reducible exact H | (rw [hy176]; exact H) | exact H
          have Ny176 := zK hy176
          clear hy176
          simp only [Option.some.injEq, Prod.mk.injEq] at H
          obtain ⟨rfl, rfl, rfl⟩ := H
          have q35 : (x11_1 : Int) ≤ ((l0.length : Int) : Int) := zX (by first | (with_reducible assumption) | assumption)
          obtain ⟨i035, hi035, _, hsz35, _⟩ := info_parts info96
          have hroom35 : l0.length ≤ c0 := HC0.out
          have hC35 : Kd.C k96 _ A0 l0.length l0 := HR0.out
          have hcut35 := cut_to (P := Tryd.prog) 41 96 .i64 Tryd.underlying41 hi035 A0 l0.length c0 x11_1 (zX (by first | (with_reducible assumption) | assumption)) q35 hroom35
          have hr35 := Kd.C_take (m := (x11_1 : Int).toNat) hC35 (by omega)
          have hy35 : y162.length = (x11_1 : Int).toNat := (by rw [Ny162.out, List.length_take]; omega)
          rw [← Ny162.out] at hr35
          rw [← hy35] at hcut35
          have HR165 := zK hr35
          have HC165 := zK (show y162.length ≤ c0 from by omega)
          clear hr35 hC35 hroom35 hi035 hsz35
          have KY35 := zK hy35
          clear hy35
          replace q35 := eq_true q35
          go_wp2_with (first | ((with_reducible refine gate_callee (f := 95) rfl ?_); refine goesL_ (some 52) rfl rfl Tryd.func95 (by kernel_rfl) rfl #[.slice A0 y162.length c0] rfl (by (try simp only [List.map_toArray, List.map_cons, List.map_nil]); first | done | rfl | (simp only [List.length_drop, List.length_take]; rfl)) ?_; (with_reducible refine (spec_l5Copy.calls _ _ y162 t166 _ ?side1 ?side2 A30.out).mono ?_); (case side1 => repeat (first | exact (Kd.C_below HR165.out HB.out) | (with_reducible refine Kd.C_alloc ?_ _) | (with_reducible refine Kd.C_drewN ?_ _) | (with_reducible refine Kd.C_drew ?_))); (case side2 => exact HC165.out); rintro e w36 ⟨v167, rfl, ho0, hb⟩; refine ⟨_, rfl, ?_⟩; have n0_ := zK (Kd.R_lower ho0 (below_size (by repeat (first | (with_reducible first | exact HB.out | apply zA | apply zN | apply zD) | exact HB.out)))); have n1_ := zK (below_step (by repeat (first | (with_reducible first | exact HB.out | apply zA | apply zN | apply zD) | exact HB.out)) hb); clear HB; have HO168 := n0_; have HB := n1_; clear n0_ n1_; (try clear hb); (try clear hb2); (try clear hk); (try clear hi); (try clear ho0)) | ((with_reducible refine gate_builtin (b := .append) (xs := #[.tmp 52, .tmp 57]) rfl ?_); at_builtin; refine Kd.R_append k96 (w0 := w) w.heap.size rfl (.tmp 52) (.tmp 57) 41 96 (.agg #[(.string ⟨#[]⟩), (.int .i64 0), (.string ⟨#[]⟩)]) 40 rfl Tryd.underlying41 info96 rfl (by decide) (by omega) v167 t166 (⟨t138, a1, a2⟩ : S96) [.string t138, .int .i64 a1, .string a2] (fun _ => True) (fun _ => False) rfl rfl ?aP (fun _ hk => hk.elim) ?aF ?aO ?aB ?aS ?aL ?_; (case aP => exact k96_mkM _ _ _ (⟨t138, a1, a2⟩ : S96)); (case aB => exact (by repeat (first | (with_reducible first | exact HB.out | apply zA | apply zN | apply zD) | exact HB.out))); (case aF => exact (fun _ _ => trivial)); (case aO => exact (by (with_reducible repeat (first | apply zR | apply zV | apply zW)); exact HO168.out)); (case aS => exact (below_size (by repeat (first | (with_reducible first | exact HB.out | apply zA | apply zN | apply zD) | exact HB.out)))); (case aL => have := LMc31.out; omega); intro v170 w37 ho hb hg hat; rw [← Ny169.out] at ho; have n0_ := zK (hb); have n1_ := zK (ho); clear HB; clear HO168; have HB := n0_; have HO171 := n1_; clear n0_ n1_; clear ho hb hg hat; have q38 : (x11_1 : Int) ≤ ((l0.length : Int) : Int) := zX (by first | (with_reducible assumption) | assumption); obtain ⟨i038, hi038, _, hsz38, _⟩ := info_parts info96; have hroom38 : l0.length ≤ c0 := HC0.out; have hC38 : Kd.C k96 _ A0 l0.length l0 := HR0.out; have q038 : (0 : Int) ≤ (x11_1 : Int) := zX (by first | (with_reducible assumption) | assumption); have hcut38 := cut_from (P := Tryd.prog) 41 96 .i64 Tryd.underlying41 hi038 3 hsz38 A0 l0.length c0 x11_1 q038 q38; have hr38 := Kd.C_drop (m := (x11_1 : Int).toNat) (c := c0) hC38 (by omega) hroom38; obtain ⟨A38, hA38⟩ : ∃ A1, A1 = (if c0 = (x11_1 : Int).toNat then A0 else (A0 : Option Addr).map (·.add ((x11_1 : Int).toNat * 3))) := ⟨_, rfl⟩; obtain ⟨c38, hc38⟩ : ∃ c1, c1 = c0 - (x11_1 : Int).toNat := ⟨_, rfl⟩; have hy38 : y172.length = l0.length - (x11_1 : Int).toNat := (by rw [Ny172.out, List.length_drop] <;> omega); rw [show (l0).drop (x11_1 : Int).toNat = y172 from Ny172.out.symm] at hr38; replace hr38 : Kd.C k96 _ A38 y172.length y172 := (by rw [hA38]; exact hr38); rw [← hy38, ← hA38, ← hc38] at hcut38; have HR175 := zK hr38; have HC175 := zK (show y172.length ≤ c38 from by rw [hy38, hc38]; exact Nat.sub_le_sub_right hroom38 _); clear hr38 hC38 hroom38 hi038 hsz38 hc38; have KY38 := zK hy38; have KA38 := zK hA38; clear hy38 hA38; replace q38 := eq_true q38) | ((with_reducible refine gate_builtin (b := .append) (xs := #[.tmp 59, .tmp 62]) rfl ?_); at_builtin; refine Kd.R_append_rows k96 (w0 := w) w.heap.size rfl (.tmp 59) (.tmp 62) 41 96 (.agg #[(.string ⟨#[]⟩), (.int .i64 0), (.string ⟨#[]⟩)]) 40 rfl Tryd.underlying41 info96 rfl (by decide) (by omega) v170 y169 y172 _ _ _ (fun _ => True) (fun _ => False) rfl rfl ?aO ?aR (fun _ _ h => h) (fun _ h => h.elim) ?aF ?aB ?aS ?aL ?_; (case aR => repeat (first | exact (Kd.C_below HR175.out HB.out) | (with_reducible refine Kd.C_alloc ?_ _) | (with_reducible refine Kd.C_drewN ?_ _) | (with_reducible refine Kd.C_drew ?_))); (case aB => exact (by repeat (first | (with_reducible first | exact HB.out | apply zA | apply zN | apply zD) | exact HB.out))); (case aF => exact (fun _ _ => trivial)); (case aO => exact (by (with_reducible repeat (first | apply zR | apply zV | apply zW)); exact HO171.out)); (case aS => exact (below_size (by repeat (first | (with_reducible first | exact HB.out | apply zA | apply zN | apply zD) | exact HB.out)))); (case aL => have := LMc34.out; omega); intro v177 w39 ho hb hg hat; rw [← Ny176.out] at ho; have n0_ := zK (hb); have n1_ := zK (ho); clear HB; clear HO171; have HB := n0_; have HO178 := n1_; clear n0_ n1_; clear ho hb hg hat))
          go_ret3
          exact ⟨_, by first | rfl | (simp [errW_none, errW_some] <;> rfl) | (simp [*, errW_none, errW_some] <;> rfl), by (with_reducible repeat (first | apply zR | apply zV | apply zW)); exact HO178.out, by repeat (first | (with_reducible first | exact HB.out | apply zA | apply zN | apply zD) | exact HB.out)⟩
         ·
          rw [if_neg c34] at H
          exact absurd H (by simp)
        ·
         rw [if_neg c31] at H
         exact absurd H (by simp)
       ·
        rw [if_neg c29] at H
        exact absurd H (by simp)
      ·
       rw [if_neg c28] at H
       exact absurd H (by simp)

end Go.Proofs.YtjibadlbiapcmaaDoor.PX
