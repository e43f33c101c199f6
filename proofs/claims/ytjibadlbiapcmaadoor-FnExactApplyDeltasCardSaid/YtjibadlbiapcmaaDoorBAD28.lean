/- Texts of this claim set one behind another by wip/bundle.py: PXf81, PXf57, XFilesFault, XFilesSz. -/
import Derived.Test.YtjibadlbiapcmaaDoorBAD3
import Derived.Test.YtjibadlbiapcmaaDoorBAD12
import Derived.Test.YtjibadlbiapcmaaDoorBAD26
import Derived.Test.YtjibadlbiapcmaaDoorBAD13
import Derived.Test.YtjibadlbiapcmaaDoorBAD23
import Derived.Test.YtjibadlbiapcmaaDoorBAD17
import Derived.Test.YtjibadlbiapcmaaDoorBAD14
namespace Go.Proofs.YtjibadlbiapcmaaDoor.PX
open Go.RowKit Go.Proofs.YtjibadlbiapcmaaDoorW.PrintWords Go.Proofs.YtjibadlbiapcmaaDoorW.PrintLast Go.Proofs.YtjibadlbiapcmaaDoorW.PrintMore
attribute [local go_sem] max2_int min2_int max_two min_two max_three min_three max_four min_four   -- for this text's walks alone
set_option linter.unusedVariables false
set_option linter.unusedSimpArgs false

/-! ### impl_FilesFault: function 81 -/
mutual
def impl_FilesFault.l0 : Nat → List (S106) → List (S106) → Int → Int → Option (Int)
 | 0, _, _, _, _ => none
 | k + 1, x0, x10, x11, x12 => if x12 < x11 then (if 0 ≤ x12 then (if x12 < (x10.length : Int) then ((impl_PathFault.f ((rd_T106 x10 x12).f0)).bind fun t204 => (if t204 = 0 then ((impl_isFileMode.f ((rd_T106 x10 x12).f1)).bind fun t205 => (if t205 = true then ((impl_isIdOf.f 1 ((rd_T106 x10 x12).f2)).bind fun t206 => (if t206 = true then (if x12 > 0 then (if 0 ≤ (wrap64 (x12 - 1)) then (if (wrap64 (x12 - 1)) < (x0.length : Int) then (if ((Op.bytesLess (((rd_T106 x0 (wrap64 (x12 - 1))).f0).toList) (((rd_T106 x10 x12).f0).toList)) = true) then (impl_FilesFault.l0 k x0 x10 x11 (wrap64 (x12 + 1))) else (some 1)) else (none)) else (none)) else (impl_FilesFault.l0 k x0 x10 x11 (wrap64 (x12 + 1)))) else (some 1))) else (some 3))) else (some 1))) else (none)) else (none)) else (impl_FilesFault.l1 k x0 x0 (x0.length : Int) 0)
def impl_FilesFault.l1 : Nat → List (S106) → List (S106) → Int → Int → Option (Int)
 | 0, _, _, _, _ => none
 | k + 1, x0, x48, x49, x50 => if x50 < x49 then (if 0 ≤ x50 then (if x50 < (x48.length : Int) then ((impl_File_125_FilesFault_1.f x0 ((rd_T106 x48 x50).f0) ((rd_T106 x48 x50).f1) ((rd_T106 x48 x50).f2)).bind fun t210 => (if t210 = true then (some 7) else (impl_FilesFault.l1 k x0 x48 x49 (wrap64 (x50 + 1))))) else (none)) else (none)) else (some 0)
end
def impl_FilesFault.f (k : Nat) (l0 : List (S106)) : Option (Int) := if (l0.length : Int) > 60 then (some 2) else (impl_FilesFault.l0 k l0 l0 (l0.length : Int) 0)
theorem impl_FilesFault.mono_l : ∀ k, (∀ y0 y1 y2 y3, LeO (impl_FilesFault.l0 k y0 y1 y2 y3) (impl_FilesFault.l0 (k + 1) y0 y1 y2 y3)) ∧ (∀ y0 y1 y2 y3, LeO (impl_FilesFault.l1 k y0 y1 y2 y3) (impl_FilesFault.l1 (k + 1) y0 y1 y2 y3))
 | 0 => ⟨fun _ _ _ _ r h => by simp [impl_FilesFault.l0] at h, fun _ _ _ _ r h => by simp [impl_FilesFault.l1] at h⟩
 | k + 1 => by
  obtain ⟨ih0, ih1⟩ := impl_FilesFault.mono_l k
  refine ⟨?_, ?_⟩
  ·
   intro y0 y1 y2 y3
   unfold impl_FilesFault.l0
   repeat' first
   | (with_reducible exact ih0 _ _ _ _)
   | (with_reducible exact ih1 _ _ _ _)
   | (with_reducible exact LeO.refl _)
   | (with_reducible exact LeO.none _)
   | (with_reducible refine LeO.ite ?_ ?_)
   | (with_reducible refine LeO.bind ?_ (fun _ => ?_))
   | exact ih0 _ _ _ _
   | exact ih1 _ _ _ _
   | exact LeO.none _
   | refine LeO.ite ?_ ?_
   | refine LeO.bind ?_ (fun _ => ?_)
  ·
   intro y0 y1 y2 y3
   unfold impl_FilesFault.l1
   repeat' first
   | (with_reducible exact ih0 _ _ _ _)
   | (with_reducible exact ih1 _ _ _ _)
   | (with_reducible exact LeO.refl _)
   | (with_reducible exact LeO.none _)
   | (with_reducible refine LeO.ite ?_ ?_)
   | (with_reducible refine LeO.bind ?_ (fun _ => ?_))
   | exact ih0 _ _ _ _
   | exact ih1 _ _ _ _
   | exact LeO.none _
   | refine LeO.ite ?_ ?_
   | refine LeO.bind ?_ (fun _ => ?_)
theorem impl_FilesFault.mono : ∀ a0 k, LeO (impl_FilesFault.f k a0) (impl_FilesFault.f (k + 1) a0) := by
 intro a0 k
 obtain ⟨ih0, ih1⟩ := impl_FilesFault.mono_l k
 unfold impl_FilesFault.f
 repeat' first
   | (with_reducible exact ih0 _ _ _ _)
   | (with_reducible exact ih1 _ _ _ _)
   | (with_reducible exact LeO.refl _)
   | (with_reducible exact LeO.none _)
   | (with_reducible refine LeO.ite ?_ ?_)
   | (with_reducible refine LeO.bind ?_ (fun _ => ?_))
   | exact ih0 _ _ _ _
   | exact ih1 _ _ _ _
   | exact LeO.none _
   | refine LeO.ite ?_ ?_
   | refine LeO.bind ?_ (fun _ => ?_)
def impl_FilesFault.T10 : Bool × List (List Nat × List Nat) := (true, [([], []), ([0], [0]), ([1], [1]), ([2], [2]), ([3, 2], [3]), ([4], [4]), ([5, 4], [4, 5]), ([6, 4, 4], [4, 6]), ([7], [7]), ([8, 7], [7, 8]), ([7], [7]), ([7], [7]), ([11, 7], [7, 11]), ([10, 12, 7], [7, 10, 12]), ([13, 7], [7, 13]), ([14, 7], [7, 14]), ([9, 15, 7], [7, 9, 15]), ([7, 16, 4], [4, 7, 16]), ([4, 17], [4, 17]), ([18, 7], [18])])
def impl_FilesFault.B10 : List Nat := [0, 1, 3, 7, 15, 31, 63, 127, 255, 511, 255, 255, 2303, 7423, 15615, 31999, 65535, 131071, 262143, 524287]
theorem impl_FilesFault.tab10 : rtab .any (opsOf Tryd.f81 10) = impl_FilesFault.T10 := by kernel_rfl
theorem impl_FilesFault.bits10 : waitsOk impl_FilesFault.T10.2 impl_FilesFault.B10 = true := by kernel_rfl
set_option maxHeartbeats 8000000 in
set_option maxRecDepth 100000 in
theorem impl_FilesFault.calls (k : Nat) (A0 : Option Addr) (c0 : Nat) (l0 : List (S106)) (r : Int) (w : World) (hr0 : Kd.C k106 w A0 l0.length l0) (hc0 : l0.length ≤ c0) (h : impl_FilesFault.f k l0 = some r) :
  Calls Tryd.prog 81 #[.slice A0 l0.length c0] w fun e w' => e = .returned (.int .i64 r) ∧ Below w.heap.size w w' := by
 have hu106 := Tryd.underlying106
 have HR0 := zK hr0
 have HC0 := zK hc0
 clear hr0 hc0
 have HB := zK (Below.refl w.heap.size w)
 have H : (if (l0.length : Int) > 60 then (some 2) else (impl_FilesFault.l0 k l0 l0 (l0.length : Int) 0)) = some r := h
 clear h
 by_cases c2 : (l0.length : Int) > 60
 ·
  rw [if_pos c2] at H
  have c2b0 : decide (60 < (l0.length : Int)) = true := decide_eq_true c2
  have c2b1 : decide (60 < l0.length) = true := decide_eq_true (by omega)
  clear c2
  obtain rfl := Option.some.inj H
  go_enter Tryd.func81, Tryd.ntmps81
  go_wp2
  go_ret
  exact ⟨by first | rfl | (simp [errW_none, errW_some] <;> rfl) | (simp [*, errW_none, errW_some] <;> rfl), by repeat (first | (with_reducible first | exact HB.out | apply zA | apply zN | apply zD) | exact HB.out)⟩
 ·
  rw [if_neg c2] at H
  have c2b0 : decide (60 < (l0.length : Int)) = false := decide_eq_false c2
  have c2b1 : decide (60 < l0.length) = false := decide_eq_false (by omega)
  clear c2
  have H' := zK H
  clear H
  go_enter Tryd.func81, Tryd.ntmps81
  go_wp2
  go_loopg [12] k (fun kq v12 w' => ∃ (x12_1 : Int), v12 = .int .i64 x12_1 ∧ Aside0 (impl_FilesFault.l0 kq l0 l0 (l0.length : Int) x12_1 = some r) ∧ Aside0 (kq ≤ k) ∧ Aside0 (Below w.heap.size w w'))
  case atStart => exact ⟨(0), (by first | rfl | (simp; done) | (simp [*]; done)), H', ⟨Nat.le_refl _⟩, ⟨by repeat (first | (with_reducible first | exact HB.out | apply zA | apply zN | apply zD) | exact HB.out)⟩⟩
  case round =>
   clear H'
   try clear c2
   try clear c2b0
   try clear c2b1
   try clear p2
   obtain ⟨x12_1, rfl, HA, HK1, HB⟩ := hrel
   cases gk with
   | zero => exact absurd HA.out (by simp [impl_FilesFault.l0])
   | succ k1 =>
    have H := HA.out
    clear HA
    simp only [impl_FilesFault.l0] at H
    by_cases c3 : x12_1 < (l0.length : Int)
    ·
     rw [if_pos c3] at H
     have c3b0 : decide (x12_1 < (l0.length : Int)) = true := decide_eq_true c3
     clear c3
     by_cases c4 : 0 ≤ x12_1
     ·
      rw [if_pos c4] at H
      have c4b0 : decide (0 ≤ x12_1) = true := decide_eq_true c4
      clear c4
      by_cases c5 : x12_1 < (l0.length : Int)
      ·
       rw [if_pos c5] at H
       have c5b0 : decide (x12_1 < (l0.length : Int)) = true := decide_eq_true c5
       clear c5
       replace H := Option.bind_eq_some_iff.mp H
       obtain ⟨t204, A60, H⟩ := H
       replace H : (if t204 = 0 then ((impl_isFileMode.f ((rd_T106 l0 x12_1).f1)).bind fun t205 => (if t205 = true then ((impl_isIdOf.f 1 ((rd_T106 l0 x12_1).f2)).bind fun t206 => (if t206 = true then (if x12_1 > 0 then (if 0 ≤ (wrap64 (x12_1 - 1)) then (if (wrap64 (x12_1 - 1)) < (l0.length : Int) then (if ((Op.bytesLess (((rd_T106 l0 (wrap64 (x12_1 - 1))).f0).toList) (((rd_T106 l0 x12_1).f0).toList)) = true) then (impl_FilesFault.l0 k1 l0 l0 (l0.length : Int) (wrap64 (x12_1 + 1))) else (some 1)) else (none)) else (none)) else (impl_FilesFault.l0 k1 l0 l0 (l0.length : Int) (wrap64 (x12_1 + 1)))) else (some 1))) else (some 3))) else (some 1)) = some r := H
       have A6 := zK A60
       clear A60
       by_cases c7 : t204 = 0
       ·
        rw [if_pos c7] at H
        have c7b0 : (t204 == 0) = true := beq_iff_eq.mpr c7
        have c7b1 : (t204 != 0) = false := bne_eq_false_iff_eq.mpr c7
        clear c7
        replace H := Option.bind_eq_some_iff.mp H
        obtain ⟨t205, A80, H⟩ := H
        replace H : (if t205 = true then ((impl_isIdOf.f 1 ((rd_T106 l0 x12_1).f2)).bind fun t206 => (if t206 = true then (if x12_1 > 0 then (if 0 ≤ (wrap64 (x12_1 - 1)) then (if (wrap64 (x12_1 - 1)) < (l0.length : Int) then (if ((Op.bytesLess (((rd_T106 l0 (wrap64 (x12_1 - 1))).f0).toList) (((rd_T106 l0 x12_1).f0).toList)) = true) then (impl_FilesFault.l0 k1 l0 l0 (l0.length : Int) (wrap64 (x12_1 + 1))) else (some 1)) else (none)) else (none)) else (impl_FilesFault.l0 k1 l0 l0 (l0.length : Int) (wrap64 (x12_1 + 1)))) else (some 1))) else (some 3)) = some r := H
        have A8 := zK A80
        clear A80
        by_cases c9 : t205 = true
        ·
         subst c9
         have H1 : ((impl_isIdOf.f 1 ((rd_T106 l0 x12_1).f2)).bind fun t206 => (if t206 = true then (if x12_1 > 0 then (if 0 ≤ (wrap64 (x12_1 - 1)) then (if (wrap64 (x12_1 - 1)) < (l0.length : Int) then (if ((Op.bytesLess (((rd_T106 l0 (wrap64 (x12_1 - 1))).f0).toList) (((rd_T106 l0 x12_1).f0).toList)) = true) then (impl_FilesFault.l0 k1 l0 l0 (l0.length : Int) (wrap64 (x12_1 + 1))) else (some 1)) else (none)) else (none)) else (impl_FilesFault.l0 k1 l0 l0 (l0.length : Int) (wrap64 (x12_1 + 1)))) else (some 1))) = some r := by rw [if_pos rfl] at H; exact H
         clear H
         have H := H1
         clear H1
         replace H := Option.bind_eq_some_iff.mp H
         obtain ⟨t206, A100, H⟩ := H
         replace H : (if t206 = true then (if x12_1 > 0 then (if 0 ≤ (wrap64 (x12_1 - 1)) then (if (wrap64 (x12_1 - 1)) < (l0.length : Int) then (if ((Op.bytesLess (((rd_T106 l0 (wrap64 (x12_1 - 1))).f0).toList) (((rd_T106 l0 x12_1).f0).toList)) = true) then (impl_FilesFault.l0 k1 l0 l0 (l0.length : Int) (wrap64 (x12_1 + 1))) else (some 1)) else (none)) else (none)) else (impl_FilesFault.l0 k1 l0 l0 (l0.length : Int) (wrap64 (x12_1 + 1)))) else (some 1)) = some r := H
         have A10 := zK A100
         clear A100
         by_cases c11 : t206 = true
         ·
          subst c11
          have H1 : (if x12_1 > 0 then (if 0 ≤ (wrap64 (x12_1 - 1)) then (if (wrap64 (x12_1 - 1)) < (l0.length : Int) then (if ((Op.bytesLess (((rd_T106 l0 (wrap64 (x12_1 - 1))).f0).toList) (((rd_T106 l0 x12_1).f0).toList)) = true) then (impl_FilesFault.l0 k1 l0 l0 (l0.length : Int) (wrap64 (x12_1 + 1))) else (some 1)) else (none)) else (none)) else (impl_FilesFault.l0 k1 l0 l0 (l0.length : Int) (wrap64 (x12_1 + 1)))) = some r := by rw [if_pos rfl] at H; exact H
          clear H
          have H := H1
          clear H1
          by_cases c12 : x12_1 > 0
          ·
           rw [if_pos c12] at H
           have c12b0 : decide (0 < x12_1) = true := decide_eq_true c12
           clear c12
           obtain ⟨ji13, hji13⟩ : ∃ j_ : Int, (wrap64 (x12_1 - 1)) = j_ := ⟨_, rfl⟩
           replace H : (if 0 ≤ (ji13) then (if (ji13) < (l0.length : Int) then (if ((Op.bytesLess (((rd_T106 l0 (ji13)).f0).toList) (((rd_T106 l0 x12_1).f0).toList)) = true) then (impl_FilesFault.l0 k1 l0 l0 (l0.length : Int) (wrap64 (x12_1 + 1))) else (some 1)) else (none)) else (none)) = some r := by first | (rw [hji13] at H; exact H) | (simp only [hji13] at H ⊢; exact H)
           (try rw [hji13] at A6)
           (try rw [hji13] at A8)
           (try rw [hji13] at A10)
           have hji13w : (IntKind.i64.wrap (x12_1 - 1)) = ji13 := (i64_w _).trans hji13
           by_cases c14 : 0 ≤ (ji13)
           ·
            rw [if_pos c14] at H
            have c14b0 : decide (0 ≤ (ji13)) = true := decide_eq_true c14
            clear c14
            by_cases c15 : (ji13) < (l0.length : Int)
            ·
             rw [if_pos c15] at H
             have c15b0 : decide ((ji13) < (l0.length : Int)) = true := decide_eq_true c15
             clear c15
             by_cases c16 : ((Op.bytesLess (((rd_T106 l0 (ji13)).f0).toList) (((rd_T106 l0 x12_1).f0).toList)) = true)
             ·
              rw [if_pos c16] at H
              have c16b0 : (Op.bytesLess (((rd_T106 l0 (ji13)).f0).toList) (((rd_T106 l0 x12_1).f0).toList)) = true := c16
              clear c16
              have H' := zK H
              clear H
              have p202 : 0 ≤ (x12_1 : Int) := zX (by first | (with_reducible assumption) | assumption)
              have q202 : x12_1 < (l0.length : Int) := zX (by first | (with_reducible assumption) | assumption)
              obtain ⟨ad202, e202, hx202_0, hx202_1, hx202_2⟩ := at_T106 HR0.out x12_1 p202 q202
              cases e202
              replace hx202_0 := (HB.out.cell (zL w _ hx202_0)).trans hx202_0
              replace hx202_1 := (HB.out.cell (zL w _ hx202_1)).trans hx202_1
              replace hx202_2 := (HB.out.cell (zL w _ hx202_2)).trans hx202_2
              replace p202 := eq_true p202
              replace q202 := eq_true q202
              try go_wp2_with (first | ((with_reducible refine gate_dst (N := 4) rfl ?_); refine box_event ?hg (N := 4) ?hd (cs := #[.string (⟨#[]⟩ : ByteArray), .int .i64 0, .string (⟨#[]⟩ : ByteArray)]) (t := 106) ?hr ?_; (case hd => rfl); (case hg => rfl); (case hr => first | (go_simp; done) | (go_simp; rfl)); intro gb203 hg w17 hbox hb; have n0_ := zK (below_step (by repeat (first | (with_reducible first | exact HB.out | apply zA | apply zN | apply zD) | exact HB.out)) hb); have n1_ := zK (hbox); have n2_ := zK ((by rw [hg]; exact (below_size (by repeat (first | (with_reducible first | exact HB.out | apply zA | apply zN | apply zD) | exact HB.out))) : w.heap.size ≤ gb203)); have n3_ := zK ((by rw [hg]; exact (below_size (by repeat (first | (with_reducible first | exact HB.out | apply zA | apply zN | apply zD) | exact HB.out))) : w.heap.size ≤ gb203)); clear HB; have HB := n0_; have BK203 := n1_; have GW203 := n2_; have GE203 := n3_; clear n0_ n1_ n2_ n3_; clear hb hbox hg; have hcz18_0 : w17.cell? ⟨gb203, 0, none⟩ = some (.string (⟨#[]⟩ : ByteArray)) := (blk_cell BK203.out 0).trans rfl; have hcz18_1 : w17.cell? ⟨gb203, 1, none⟩ = some (.int .i64 0) := (blk_cell BK203.out 1).trans rfl; have hcz18_2 : w17.cell? ⟨gb203, 2, none⟩ = some (.string (⟨#[]⟩ : ByteArray)) := (blk_cell BK203.out 2).trans rfl; have hfz18_0 := blk_frozen BK203.out 0; have hfz18_1 := blk_frozen BK203.out 1; have hfz18_2 := blk_frozen BK203.out 2) | ((with_reducible refine gate_callee (f := 102) rfl ?_); refine goesL_ (some 20) rfl rfl Tryd.func102 (by kernel_rfl) rfl #[.string ((rd_T106 l0 x12_1).f0)] rfl (by (try simp only [List.map_toArray, List.map_cons, List.map_nil]); first | done | rfl | (simp only [List.length_drop, List.length_take]; rfl)) ?_; (with_reducible refine (impl_PathFault.calls ((rd_T106 l0 x12_1).f0) t204 _ A6.out).mono ?_); rintro e w19 ⟨rfl, hb⟩; refine ⟨_, rfl, ?_⟩; have n0_ := zK (blk_below (g := gb203) (o := .cells #[.string ((rd_T106 l0 x12_1).f0), .int .i64 ((rd_T106 l0 x12_1).f1), .string ((rd_T106 l0 x12_1).f2)] 106 (0, 0)) (by (with_reducible repeat (first | refine zM ?_ _ | refine zP ?_ | refine zQ ?_ _)); refine blk_put (cs := #[.string ((rd_T106 l0 x12_1).f0), .int .i64 ((rd_T106 l0 x12_1).f1), .string (⟨#[]⟩ : ByteArray)]) ?_ 2 _ rfl; (with_reducible repeat (first | refine zM ?_ _ | refine zP ?_ | refine zQ ?_ _)); refine blk_put (cs := #[.string ((rd_T106 l0 x12_1).f0), .int .i64 0, .string (⟨#[]⟩ : ByteArray)]) ?_ 1 _ rfl; (with_reducible repeat (first | refine zM ?_ _ | refine zP ?_ | refine zQ ?_ _)); refine blk_put (cs := #[.string (⟨#[]⟩ : ByteArray), .int .i64 0, .string (⟨#[]⟩ : ByteArray)]) ?_ 0 _ rfl; (with_reducible repeat (first | refine zM ?_ _ | refine zP ?_ | refine zQ ?_ _)); exact BK203.out) hb); have n1_ := zK (below_step (by repeat (first | (with_reducible first | exact HB.out | apply zA | apply zN | apply zD | refine below_set ?_ GE203.out) | exact HB.out)) hb); clear BK203; clear HB; have BK203 := n0_; have HB := n1_; clear n0_ n1_; (try clear hb); (try clear hb2); (try clear hk); (try clear hi); have hcz20_0 : w19.cell? ⟨gb203, 0, none⟩ = some (.string ((rd_T106 l0 x12_1).f0)) := (blk_cell BK203.out 0).trans rfl; have hcz20_1 : w19.cell? ⟨gb203, 1, none⟩ = some (.int .i64 ((rd_T106 l0 x12_1).f1)) := (blk_cell BK203.out 1).trans rfl; have hcz20_2 : w19.cell? ⟨gb203, 2, none⟩ = some (.string ((rd_T106 l0 x12_1).f2)) := (blk_cell BK203.out 2).trans rfl; have hfz20_0 := blk_frozen BK203.out 0; have hfz20_1 := blk_frozen BK203.out 1; have hfz20_2 := blk_frozen BK203.out 2) | ((with_reducible refine gate_callee (f := 104) rfl ?_); refine goesL_ (some 25) rfl rfl Tryd.func104 (by kernel_rfl) rfl #[.int .i64 ((rd_T106 l0 x12_1).f1)] rfl (by (try simp only [List.map_toArray, List.map_cons, List.map_nil]); first | done | rfl | (simp only [List.length_drop, List.length_take]; rfl)) ?_; (with_reducible refine (impl_isFileMode.calls ((rd_T106 l0 x12_1).f1) true _ A8.out).mono ?_); rintro e w' ⟨rfl, ⟨nd, rfl⟩⟩; refine ⟨_, rfl, ?_⟩))
              (try (rw [drewN_self w19]; generalize hq_ : World.drewN w19 _ = w19; have n0_ : Aside0 (w19.heap[gb203]? = some (.cells #[.string ((rd_T106 l0 x12_1).f0), .int .i64 ((rd_T106 l0 x12_1).f1), .string ((rd_T106 l0 x12_1).f2)] 106 (0, 0))) := ⟨by rw [← hq_]; exact (by (with_reducible repeat (first | refine zM ?_ _ | refine zP ?_ | refine zQ ?_ _)); exact BK203.out)⟩; have n1_ : Aside0 (Below w.heap.size w w19) := ⟨by rw [← hq_]; exact (by repeat (first | (with_reducible first | exact HB.out | apply zA | apply zN | apply zD | refine below_set ?_ GE203.out) | exact HB.out))⟩; clear BK203 HB hq_; have BK203 := n0_; have HB := n1_; clear n0_ n1_))
              have n0_ := zK (zP BK203.out)
              have n1_ := zK (zD HB.out)
              clear BK203
              clear HB
              have BK203 := n0_
              have HB := n1_
              clear n0_ n1_
              have p207 : 0 ≤ ((ji13) : Int) := zX (by first | (with_reducible assumption) | assumption)
              have q207 : (ji13) < (l0.length : Int) := zX (by first | (with_reducible assumption) | assumption)
              obtain ⟨ad207, e207, hx207_0, hx207_1, hx207_2⟩ := at_T106 HR0.out (ji13) p207 q207
              have hw207_2 := hx207_2
              have hw207_1 := hx207_1
              have hw207_0 := hx207_0
              obtain rfl : ad202 = ad207 := (by injection e207)
              replace hx207_0 := (HB.out.cell (zL w _ hx207_0)).trans hx207_0
              replace hx207_1 := (HB.out.cell (zL w _ hx207_1)).trans hx207_1
              replace hx207_2 := (HB.out.cell (zL w _ hx207_2)).trans hx207_2
              replace p207 := eq_true p207
              replace q207 := eq_true q207
              refine start_ (n := 20) (S := fun w' => w'.cell? ⟨gb203, 0, none⟩ = some (.string ((rd_T106 l0 x12_1).f0)) ∧ w'.cell? ⟨gb203, 1, none⟩ = some (.int .i64 ((rd_T106 l0 x12_1).f1)) ∧ w'.cell? ⟨gb203, 2, none⟩ = some (.string ((rd_T106 l0 x12_1).f2)) ∧ w'.cell? (ad202.add (((ji13)).toNat * 3)) = some (.string ((rd_T106 l0 (ji13)).f0)) ∧ w'.cell? ⟨(ad202.add (((ji13)).toNat * 3)).block, (ad202.add (((ji13)).toNat * 3)).off + 1, none⟩ = some (.int .i64 ((rd_T106 l0 (ji13)).f1)) ∧ w'.cell? ⟨(ad202.add (((ji13)).toNat * 3)).block, (ad202.add (((ji13)).toNat * 3)).off + 2, none⟩ = some (.string ((rd_T106 l0 (ji13)).f2))) (ds := []) #[zF,zF,zF,zF,zF,zF,zF,zF,zF,zF,zF,zF,zF,zF,zF,zF,zF,zF,zF,zF] (by kernel_rfl) rfl rfl ⟨(blk_cell BK203.out 0).trans rfl, (blk_cell BK203.out 1).trans rfl, (blk_cell BK203.out 2).trans rfl, ((HB.out.cell (zL w _ hw207_0)).trans hw207_0), ((HB.out.cell (zL w _ hw207_1)).trans hw207_1), ((HB.out.cell (zL w _ hw207_2)).trans hw207_2)⟩ (fun hHeld => ?_); refine with_tabW impl_FilesFault.tab10 impl_FilesFault.bits10 (fun HT_ HW_ => ?_)
              generalize w19.drew = w21 at BK203 HB hx207_0 hx207_1 hx207_2 hHeld ⊢
              refine pure_ (i := 0) (N := some 28) (v := ?_) (a' := ?_) #[zB,zF,zF,zF,zF,zF,zF,zF,zF,zF,zF,zF,zF,zF,zF,zF,zF,zF,zF,zF] rfl rfl (any_of HT_.out (by kernel_rfl)) (fun _ _ _ h => h) (Or.inl ⟨by rfl, ?_⟩) ?_ ?_
              rotate_left
              ·
               intro w'
               go_simp
               with_reducible rfl
              rotate_left
              ·
               simp only [Act.put, zS, zT, zU, i64_w, i32_w]
               rfl
              refine take_ (i := 1) (N := some 29) (v := ?_) (a' := ?_) #[zB,zB,zF,zF,zF,zF,zF,zF,zF,zF,zF,zF,zF,zF,zF,zF,zF,zF,zF,zF] rfl rfl (take_ofW HT_.out HW_.out (by kernel_rfl)) (fun _ _ _ h => h) (Or.inl ⟨by rfl, ?_⟩) hHeld ?_ ?_
              rotate_left
              ·
               rintro w' ⟨s0, s1, s2, s3, s4, s5⟩
               go_simp
               with_reducible rfl
              rotate_left
              ·
               simp only [Act.put, zS, zT, zU, i64_w, i32_w]
               rfl
              refine one_ (i := 2) (N := some 30) #[zB,zB,zB,zF,zF,zF,zF,zF,zF,zF,zF,zF,zF,zF,zF,zF,zF,zF,zF,zF] rfl rfl (one_of HT_.out (by kernel_rfl)) (by decide) (fun K hK => ?_)
              refine goes_ Tryd.func105 (by kernel_rfl) rfl #[.int .i64 1, .string ((rd_T106 l0 x12_1).f2)] (by rfl) rfl rfl (by (try simp only [List.map_toArray, List.map_cons, List.map_nil]); first | done | rfl | (simp only [List.length_drop, List.length_take]; rfl)) ?_
              with_reducible refine (impl_isIdOf.calls 1 ((rd_T106 l0 x12_1).f2) true _ A10.out).mono ?_
              rintro e w22 ⟨rfl, hb⟩
              refine ⟨_, rfl, ?_⟩
              have n0_ := zK (blk_below (g := gb203) (o := .cells #[.string ((rd_T106 l0 x12_1).f0), .int .i64 ((rd_T106 l0 x12_1).f1), .string ((rd_T106 l0 x12_1).f2)] 106 (0, 0)) (by (with_reducible repeat (first | refine zM ?_ _ | refine zP ?_ | refine zQ ?_ _)); exact BK203.out) hb)
              have n1_ := zK (below_step (by repeat (first | (with_reducible first | exact HB.out | apply zA | apply zN | apply zD | refine below_set ?_ GE203.out) | exact HB.out)) hb)
              clear BK203
              clear HB
              have BK203 := n0_
              have HB := n1_
              clear n0_ n1_
              (try clear hb)
              (try clear hb2)
              (try clear hk)
              (try clear hi)
              refine hK.out _ _ ⟨(blk_cell BK203.out 0).trans rfl, (blk_cell BK203.out 1).trans rfl, (blk_cell BK203.out 2).trans rfl, ((HB.out.cell (zL w _ hw207_0)).trans hw207_0), ((HB.out.cell (zL w _ hw207_1)).trans hw207_1), ((HB.out.cell (zL w _ hw207_2)).trans hw207_2)⟩ (fun hHeld => ?_)
              clear hK K
              refine norm_ (a' := ?_) ?_ ?_
              rotate_left
              ·
               show Act.put _ (some 30) _ = _
               simp only [Act.put, zS, zT, zU, i64_w, i32_w]
               rfl
              refine pure_ (i := 3) (N := some 31) (v := ?_) (a' := ?_) #[zB,zB,zB,zB,zF,zF,zF,zF,zF,zF,zF,zF,zF,zF,zF,zF,zF,zF,zF,zF] rfl rfl (any_of HT_.out (by kernel_rfl)) (fun _ _ _ h => h) (Or.inl ⟨by rfl, ?_⟩) ?_ ?_
              rotate_left
              ·
               intro w'
               go_simp
               with_reducible rfl
              rotate_left
              ·
               simp only [Act.put, zS, zT, zU, i64_w, i32_w]
               rfl
              refine pure_ (i := 4) (N := some 32) (v := ?_) (a' := ?_) #[zB,zB,zB,zB,zB,zF,zF,zF,zF,zF,zF,zF,zF,zF,zF,zF,zF,zF,zF,zF] rfl rfl (any_of HT_.out (by kernel_rfl)) (fun _ _ _ h => h) (Or.inl ⟨by rfl, ?_⟩) ?_ ?_
              rotate_left
              ·
               intro w'
               go_simp
               with_reducible rfl
              rotate_left
              ·
               simp only [Act.put, zS, zT, zU, i64_w, i32_w]
               rfl
              refine pure_ (i := 5) (N := some 33) (v := ?_) (a' := ?_) #[zB,zB,zB,zB,zB,zB,zF,zF,zF,zF,zF,zF,zF,zF,zF,zF,zF,zF,zF,zF] rfl rfl (any_of HT_.out (by kernel_rfl)) (fun _ _ _ h => h) (Or.inl ⟨by rfl, ?_⟩) ?_ ?_
              rotate_left
              ·
               intro w'
               go_simp
               with_reducible rfl
              rotate_left
              ·
               simp only [Act.put, zS, zT, zU, i64_w, i32_w]
               rfl
              refine pure_ (i := 6) (N := some 34) (v := ?_) (a' := ?_) #[zB,zB,zB,zB,zB,zB,zB,zF,zF,zF,zF,zF,zF,zF,zF,zF,zF,zF,zF,zF] rfl rfl (any_of HT_.out (by kernel_rfl)) (fun _ _ _ h => h) (Or.inl ⟨by rfl, ?_⟩) ?_ ?_
              rotate_left
              ·
               intro w'
               go_simp
               with_reducible rfl
              rotate_left
              ·
               simp only [Act.put, zS, zT, zU, i64_w, i32_w]
               rfl
              refine pure_ (i := 7) (N := some 35) (v := ?_) (a' := ?_) #[zB,zB,zB,zB,zB,zB,zB,zB,zF,zF,zF,zF,zF,zF,zF,zF,zF,zF,zF,zF] rfl rfl (any_of HT_.out (by kernel_rfl)) (fun _ _ _ h => h) (Or.inl ⟨by rfl, ?_⟩) ?_ ?_
              rotate_left
              ·
               intro w'
               go_simp
               with_reducible rfl
              rotate_left
              ·
               simp only [Act.put, zS, zT, zU, i64_w, i32_w]
               rfl
              refine pure_ (i := 8) (N := some 36) (v := ?_) (a' := ?_) #[zB,zB,zB,zB,zB,zB,zB,zB,zB,zF,zF,zF,zF,zF,zF,zF,zF,zF,zF,zF] rfl rfl (any_of HT_.out (by kernel_rfl)) (fun _ _ _ h => h) (Or.inl ⟨by rfl, ?_⟩) ?_ ?_
              rotate_left
              ·
               intro w'
               go_simp
               with_reducible rfl
              rotate_left
              ·
               simp only [Act.put, zS, zT, zU, i64_w, i32_w]
               rfl
              refine pure_ (i := 10) (N := some 38) (v := ?_) (a' := ?_) #[zB,zB,zB,zB,zB,zB,zB,zB,zB,zF,zB,zF,zF,zF,zF,zF,zF,zF,zF,zF] rfl rfl (any_of HT_.out (by kernel_rfl)) (fun _ _ _ h => h) (Or.inl ⟨by rfl, ?_⟩) ?_ ?_
              rotate_left
              ·
               intro w'
               go_simp
               with_reducible rfl
              rotate_left
              ·
               simp only [Act.put, zS, zT, zU, i64_w, i32_w]
               rfl
              refine pure_ (i := 11) (N := some 39) (v := ?_) (a' := ?_) #[zB,zB,zB,zB,zB,zB,zB,zB,zB,zF,zB,zB,zF,zF,zF,zF,zF,zF,zF,zF] rfl rfl (any_of HT_.out (by kernel_rfl)) (fun _ _ _ h => h) (Or.inl ⟨by rfl, ?_⟩) ?_ ?_
              rotate_left
              ·
               intro w'
               go_simp
               with_reducible rfl
              rotate_left
              ·
               simp only [Act.put, zS, zT, zU, i64_w, i32_w]
               rfl
              refine pure_ (i := 12) (N := some 40) (v := ?_) (a' := ?_) #[zB,zB,zB,zB,zB,zB,zB,zB,zB,zF,zB,zB,zB,zF,zF,zF,zF,zF,zF,zF] rfl rfl (any_of HT_.out (by kernel_rfl)) (fun _ _ _ h => h) (Or.inl ⟨by rfl, ?_⟩) ?_ ?_
              rotate_left
              ·
               intro w'
               go_simp
               with_reducible rfl
              rotate_left
              ·
               simp only [Act.put, zS, zT, zU, i64_w, i32_w]
               rfl
              refine pure_ (i := 13) (N := some 41) (v := ?_) (a' := ?_) #[zB,zB,zB,zB,zB,zB,zB,zB,zB,zF,zB,zB,zB,zB,zF,zF,zF,zF,zF,zF] rfl rfl (any_of HT_.out (by kernel_rfl)) (fun _ _ _ h => h) (Or.inl ⟨by rfl, ?_⟩) ?_ ?_
              rotate_left
              ·
               intro w'
               go_simp
               with_reducible rfl
              rotate_left
              ·
               simp only [Act.put, zS, zT, zU, i64_w, i32_w]
               rfl
              refine pure_ (i := 14) (N := some 42) (v := ?_) (a' := ?_) #[zB,zB,zB,zB,zB,zB,zB,zB,zB,zF,zB,zB,zB,zB,zB,zF,zF,zF,zF,zF] rfl rfl (any_of HT_.out (by kernel_rfl)) (fun _ _ _ h => h) (Or.inl ⟨by rfl, ?_⟩) ?_ ?_
              rotate_left
              ·
               intro w'
               go_simp
               with_reducible rfl
              rotate_left
              ·
               simp only [Act.put, zS, zT, zU, i64_w, i32_w]
               rfl
              refine take_ (i := 9) (N := some 37) (v := ?_) (a' := ?_) #[zB,zB,zB,zB,zB,zB,zB,zB,zB,zB,zB,zB,zB,zB,zB,zF,zF,zF,zF,zF] rfl rfl (take_ofW HT_.out HW_.out (by kernel_rfl)) (fun _ _ _ h => h) (Or.inl ⟨by rfl, ?_⟩) hHeld ?_ ?_
              rotate_left
              ·
               rintro w' ⟨s0, s1, s2, s3, s4, s5⟩
               go_simp
               with_reducible rfl
              rotate_left
              ·
               simp only [Act.put, zS, zT, zU, i64_w, i32_w]
               rfl
              refine take_ (i := 15) (N := some 43) (v := ?_) (a' := ?_) #[zB,zB,zB,zB,zB,zB,zB,zB,zB,zB,zB,zB,zB,zB,zB,zB,zF,zF,zF,zF] rfl rfl (take_ofW HT_.out HW_.out (by kernel_rfl)) (fun _ _ _ h => h) (Or.inl ⟨by rfl, ?_⟩) hHeld ?_ ?_
              rotate_left
              ·
               rintro w' ⟨s0, s1, s2, s3, s4, s5⟩
               go_simp
               with_reducible rfl
              rotate_left
              ·
               simp only [Act.put, zS, zT, zU, i64_w, i32_w]
               rfl
              refine pure_ (i := 16) (N := some 44) (v := ?_) (a' := ?_) #[zB,zB,zB,zB,zB,zB,zB,zB,zB,zB,zB,zB,zB,zB,zB,zB,zB,zF,zF,zF] rfl rfl (any_of HT_.out (by kernel_rfl)) (fun _ _ _ h => h) (Or.inl ⟨by rfl, ?_⟩) ?_ ?_
              rotate_left
              ·
               intro w'
               go_simp
               with_reducible rfl
              rotate_left
              ·
               simp only [Act.put, zS, zT, zU, i64_w, i32_w]
               rfl
              refine pure_ (i := 17) (N := some 45) (v := ?_) (a' := ?_) #[zB,zB,zB,zB,zB,zB,zB,zB,zB,zB,zB,zB,zB,zB,zB,zB,zB,zB,zF,zF] rfl rfl (any_of HT_.out (by kernel_rfl)) (fun _ _ _ h => h) (Or.inl ⟨by rfl, ?_⟩) ?_ ?_
              rotate_left
              ·
               intro w'
               go_simp
               with_reducible rfl
              rotate_left
              ·
               simp only [Act.put, zS, zT, zU, i64_w, i32_w]
               rfl
              refine pure_ (i := 18) (N := some 46) (v := ?_) (a' := ?_) #[zB,zB,zB,zB,zB,zB,zB,zB,zB,zB,zB,zB,zB,zB,zB,zB,zB,zB,zB,zF] rfl rfl (any_of HT_.out (by kernel_rfl)) (fun _ _ _ h => h) (Or.inl ⟨by rfl, ?_⟩) ?_ ?_
              rotate_left
              ·
               intro w'
               go_simp
               with_reducible rfl
              rotate_left
              ·
               simp only [Act.put, zS, zT, zU, i64_w, i32_w]
               rfl
              refine pure_ (i := 19) (N := some 27) (v := ?_) (a' := ?_) #[zB,zB,zB,zB,zB,zB,zB,zB,zB,zB,zB,zB,zB,zB,zB,zB,zB,zB,zB,zB] rfl rfl (any_of HT_.out (by kernel_rfl)) (fun _ _ _ h => h) (Or.inl ⟨by rfl, ?_⟩) ?_ ?_
              rotate_left
              ·
               intro w'
               go_simp
               with_reducible rfl
              rotate_left
              ·
               simp only [Act.put, zS, zT, zU, i64_w, i32_w]
               rfl
              refine done_ (done_of HT_.out (by kernel_rfl)) ?_
              try go_wp2
              go_roundg k1
              case measure => have := HK1.out; omega
              case rel => exact ⟨(wrap64 (x12_1 + 1)), (by first | rfl | (simp; done) | (simp [*]; done)), H', ⟨by have := HK1.out; omega⟩, ⟨by repeat (first | (with_reducible first | exact HB.out | apply zA | apply zN | apply zD | refine below_set ?_ GE203.out) | exact HB.out)⟩⟩
             ·
              rw [if_neg c16] at H
              have c16b0 : (Op.bytesLess (((rd_T106 l0 (ji13)).f0).toList) (((rd_T106 l0 x12_1).f0).toList)) = false := by simpa using c16
              clear c16
              obtain rfl := Option.some.inj H
              have p202 : 0 ≤ (x12_1 : Int) := zX (by first | (with_reducible assumption) | assumption)
              have q202 : x12_1 < (l0.length : Int) := zX (by first | (with_reducible assumption) | assumption)
              obtain ⟨ad202, e202, hx202_0, hx202_1, hx202_2⟩ := at_T106 HR0.out x12_1 p202 q202
              cases e202
              replace hx202_0 := (HB.out.cell (zL w _ hx202_0)).trans hx202_0
              replace hx202_1 := (HB.out.cell (zL w _ hx202_1)).trans hx202_1
              replace hx202_2 := (HB.out.cell (zL w _ hx202_2)).trans hx202_2
              replace p202 := eq_true p202
              replace q202 := eq_true q202
              try go_wp2_with (first | ((with_reducible refine gate_dst (N := 4) rfl ?_); refine box_event ?hg (N := 4) ?hd (cs := #[.string (⟨#[]⟩ : ByteArray), .int .i64 0, .string (⟨#[]⟩ : ByteArray)]) (t := 106) ?hr ?_; (case hd => rfl); (case hg => rfl); (case hr => first | (go_simp; done) | (go_simp; rfl)); intro gb203 hg w23 hbox hb; have n0_ := zK (below_step (by repeat (first | (with_reducible first | exact HB.out | apply zA | apply zN | apply zD) | exact HB.out)) hb); have n1_ := zK (hbox); have n2_ := zK ((by rw [hg]; exact (below_size (by repeat (first | (with_reducible first | exact HB.out | apply zA | apply zN | apply zD) | exact HB.out))) : w.heap.size ≤ gb203)); have n3_ := zK ((by rw [hg]; exact (below_size (by repeat (first | (with_reducible first | exact HB.out | apply zA | apply zN | apply zD) | exact HB.out))) : w.heap.size ≤ gb203)); clear HB; have HB := n0_; have BK203 := n1_; have GW203 := n2_; have GE203 := n3_; clear n0_ n1_ n2_ n3_; clear hb hbox hg; have hcz24_0 : w23.cell? ⟨gb203, 0, none⟩ = some (.string (⟨#[]⟩ : ByteArray)) := (blk_cell BK203.out 0).trans rfl; have hcz24_1 : w23.cell? ⟨gb203, 1, none⟩ = some (.int .i64 0) := (blk_cell BK203.out 1).trans rfl; have hcz24_2 : w23.cell? ⟨gb203, 2, none⟩ = some (.string (⟨#[]⟩ : ByteArray)) := (blk_cell BK203.out 2).trans rfl; have hfz24_0 := blk_frozen BK203.out 0; have hfz24_1 := blk_frozen BK203.out 1; have hfz24_2 := blk_frozen BK203.out 2) | ((with_reducible refine gate_callee (f := 102) rfl ?_); refine goesL_ (some 20) rfl rfl Tryd.func102 (by kernel_rfl) rfl #[.string ((rd_T106 l0 x12_1).f0)] rfl (by (try simp only [List.map_toArray, List.map_cons, List.map_nil]); first | done | rfl | (simp only [List.length_drop, List.length_take]; rfl)) ?_; (with_reducible refine (impl_PathFault.calls ((rd_T106 l0 x12_1).f0) t204 _ A6.out).mono ?_); rintro e w25 ⟨rfl, hb⟩; refine ⟨_, rfl, ?_⟩; have n0_ := zK (blk_below (g := gb203) (o := .cells #[.string ((rd_T106 l0 x12_1).f0), .int .i64 ((rd_T106 l0 x12_1).f1), .string ((rd_T106 l0 x12_1).f2)] 106 (0, 0)) (by (with_reducible repeat (first | refine zM ?_ _ | refine zP ?_ | refine zQ ?_ _)); refine blk_put (cs := #[.string ((rd_T106 l0 x12_1).f0), .int .i64 ((rd_T106 l0 x12_1).f1), .string (⟨#[]⟩ : ByteArray)]) ?_ 2 _ rfl; (with_reducible repeat (first | refine zM ?_ _ | refine zP ?_ | refine zQ ?_ _)); refine blk_put (cs := #[.string ((rd_T106 l0 x12_1).f0), .int .i64 0, .string (⟨#[]⟩ : ByteArray)]) ?_ 1 _ rfl; (with_reducible repeat (first | refine zM ?_ _ | refine zP ?_ | refine zQ ?_ _)); refine blk_put (cs := #[.string (⟨#[]⟩ : ByteArray), .int .i64 0, .string (⟨#[]⟩ : ByteArray)]) ?_ 0 _ rfl; (with_reducible repeat (first | refine zM ?_ _ | refine zP ?_ | refine zQ ?_ _)); exact BK203.out) hb); have n1_ := zK (below_step (by repeat (first | (with_reducible first | exact HB.out | apply zA | apply zN | apply zD | refine below_set ?_ GE203.out) | exact HB.out)) hb); clear BK203; clear HB; have BK203 := n0_; have HB := n1_; clear n0_ n1_; (try clear hb); (try clear hb2); (try clear hk); (try clear hi); have hcz26_0 : w25.cell? ⟨gb203, 0, none⟩ = some (.string ((rd_T106 l0 x12_1).f0)) := (blk_cell BK203.out 0).trans rfl; have hcz26_1 : w25.cell? ⟨gb203, 1, none⟩ = some (.int .i64 ((rd_T106 l0 x12_1).f1)) := (blk_cell BK203.out 1).trans rfl; have hcz26_2 : w25.cell? ⟨gb203, 2, none⟩ = some (.string ((rd_T106 l0 x12_1).f2)) := (blk_cell BK203.out 2).trans rfl; have hfz26_0 := blk_frozen BK203.out 0; have hfz26_1 := blk_frozen BK203.out 1; have hfz26_2 := blk_frozen BK203.out 2) | ((with_reducible refine gate_callee (f := 104) rfl ?_); refine goesL_ (some 25) rfl rfl Tryd.func104 (by kernel_rfl) rfl #[.int .i64 ((rd_T106 l0 x12_1).f1)] rfl (by (try simp only [List.map_toArray, List.map_cons, List.map_nil]); first | done | rfl | (simp only [List.length_drop, List.length_take]; rfl)) ?_; (with_reducible refine (impl_isFileMode.calls ((rd_T106 l0 x12_1).f1) true _ A8.out).mono ?_); rintro e w' ⟨rfl, ⟨nd, rfl⟩⟩; refine ⟨_, rfl, ?_⟩))
              (try (rw [drewN_self w25]; generalize hq_ : World.drewN w25 _ = w25; have n0_ : Aside0 (w25.heap[gb203]? = some (.cells #[.string ((rd_T106 l0 x12_1).f0), .int .i64 ((rd_T106 l0 x12_1).f1), .string ((rd_T106 l0 x12_1).f2)] 106 (0, 0))) := ⟨by rw [← hq_]; exact (by (with_reducible repeat (first | refine zM ?_ _ | refine zP ?_ | refine zQ ?_ _)); exact BK203.out)⟩; have n1_ : Aside0 (Below w.heap.size w w25) := ⟨by rw [← hq_]; exact (by repeat (first | (with_reducible first | exact HB.out | apply zA | apply zN | apply zD | refine below_set ?_ GE203.out) | exact HB.out))⟩; clear BK203 HB hq_; have BK203 := n0_; have HB := n1_; clear n0_ n1_))
              have n0_ := zK (zP BK203.out)
              have n1_ := zK (zD HB.out)
              clear BK203
              clear HB
              have BK203 := n0_
              have HB := n1_
              clear n0_ n1_
              have p207 : 0 ≤ ((ji13) : Int) := zX (by first | (with_reducible assumption) | assumption)
              have q207 : (ji13) < (l0.length : Int) := zX (by first | (with_reducible assumption) | assumption)
              obtain ⟨ad207, e207, hx207_0, hx207_1, hx207_2⟩ := at_T106 HR0.out (ji13) p207 q207
              have hw207_2 := hx207_2
              have hw207_1 := hx207_1
              have hw207_0 := hx207_0
              obtain rfl : ad202 = ad207 := (by injection e207)
              replace hx207_0 := (HB.out.cell (zL w _ hx207_0)).trans hx207_0
              replace hx207_1 := (HB.out.cell (zL w _ hx207_1)).trans hx207_1
              replace hx207_2 := (HB.out.cell (zL w _ hx207_2)).trans hx207_2
              replace p207 := eq_true p207
              replace q207 := eq_true q207
              refine start_ (n := 20) (S := fun w' => w'.cell? ⟨gb203, 0, none⟩ = some (.string ((rd_T106 l0 x12_1).f0)) ∧ w'.cell? ⟨gb203, 1, none⟩ = some (.int .i64 ((rd_T106 l0 x12_1).f1)) ∧ w'.cell? ⟨gb203, 2, none⟩ = some (.string ((rd_T106 l0 x12_1).f2)) ∧ w'.cell? (ad202.add (((ji13)).toNat * 3)) = some (.string ((rd_T106 l0 (ji13)).f0)) ∧ w'.cell? ⟨(ad202.add (((ji13)).toNat * 3)).block, (ad202.add (((ji13)).toNat * 3)).off + 1, none⟩ = some (.int .i64 ((rd_T106 l0 (ji13)).f1)) ∧ w'.cell? ⟨(ad202.add (((ji13)).toNat * 3)).block, (ad202.add (((ji13)).toNat * 3)).off + 2, none⟩ = some (.string ((rd_T106 l0 (ji13)).f2))) (ds := []) #[zF,zF,zF,zF,zF,zF,zF,zF,zF,zF,zF,zF,zF,zF,zF,zF,zF,zF,zF,zF] (by kernel_rfl) rfl rfl ⟨(blk_cell BK203.out 0).trans rfl, (blk_cell BK203.out 1).trans rfl, (blk_cell BK203.out 2).trans rfl, ((HB.out.cell (zL w _ hw207_0)).trans hw207_0), ((HB.out.cell (zL w _ hw207_1)).trans hw207_1), ((HB.out.cell (zL w _ hw207_2)).trans hw207_2)⟩ (fun hHeld => ?_); refine with_tabW impl_FilesFault.tab10 impl_FilesFault.bits10 (fun HT_ HW_ => ?_)
              generalize w25.drew = w27 at BK203 HB hx207_0 hx207_1 hx207_2 hHeld ⊢
              refine pure_ (i := 0) (N := some 28) (v := ?_) (a' := ?_) #[zB,zF,zF,zF,zF,zF,zF,zF,zF,zF,zF,zF,zF,zF,zF,zF,zF,zF,zF,zF] rfl rfl (any_of HT_.out (by kernel_rfl)) (fun _ _ _ h => h) (Or.inl ⟨by rfl, ?_⟩) ?_ ?_
              rotate_left
              ·
               intro w'
               go_simp
               with_reducible rfl
              rotate_left
              ·
               simp only [Act.put, zS, zT, zU, i64_w, i32_w]
               rfl
              refine take_ (i := 1) (N := some 29) (v := ?_) (a' := ?_) #[zB,zB,zF,zF,zF,zF,zF,zF,zF,zF,zF,zF,zF,zF,zF,zF,zF,zF,zF,zF] rfl rfl (take_ofW HT_.out HW_.out (by kernel_rfl)) (fun _ _ _ h => h) (Or.inl ⟨by rfl, ?_⟩) hHeld ?_ ?_
              rotate_left
              ·
               rintro w' ⟨s0, s1, s2, s3, s4, s5⟩
               go_simp
               with_reducible rfl
              rotate_left
              ·
               simp only [Act.put, zS, zT, zU, i64_w, i32_w]
               rfl
              refine one_ (i := 2) (N := some 30) #[zB,zB,zB,zF,zF,zF,zF,zF,zF,zF,zF,zF,zF,zF,zF,zF,zF,zF,zF,zF] rfl rfl (one_of HT_.out (by kernel_rfl)) (by decide) (fun K hK => ?_)
              refine goes_ Tryd.func105 (by kernel_rfl) rfl #[.int .i64 1, .string ((rd_T106 l0 x12_1).f2)] (by rfl) rfl rfl (by (try simp only [List.map_toArray, List.map_cons, List.map_nil]); first | done | rfl | (simp only [List.length_drop, List.length_take]; rfl)) ?_
              with_reducible refine (impl_isIdOf.calls 1 ((rd_T106 l0 x12_1).f2) true _ A10.out).mono ?_
              rintro e w28 ⟨rfl, hb⟩
              refine ⟨_, rfl, ?_⟩
              have n0_ := zK (blk_below (g := gb203) (o := .cells #[.string ((rd_T106 l0 x12_1).f0), .int .i64 ((rd_T106 l0 x12_1).f1), .string ((rd_T106 l0 x12_1).f2)] 106 (0, 0)) (by (with_reducible repeat (first | refine zM ?_ _ | refine zP ?_ | refine zQ ?_ _)); exact BK203.out) hb)
              have n1_ := zK (below_step (by repeat (first | (with_reducible first | exact HB.out | apply zA | apply zN | apply zD | refine below_set ?_ GE203.out) | exact HB.out)) hb)
              clear BK203
              clear HB
              have BK203 := n0_
              have HB := n1_
              clear n0_ n1_
              (try clear hb)
              (try clear hb2)
              (try clear hk)
              (try clear hi)
              refine hK.out _ _ ⟨(blk_cell BK203.out 0).trans rfl, (blk_cell BK203.out 1).trans rfl, (blk_cell BK203.out 2).trans rfl, ((HB.out.cell (zL w _ hw207_0)).trans hw207_0), ((HB.out.cell (zL w _ hw207_1)).trans hw207_1), ((HB.out.cell (zL w _ hw207_2)).trans hw207_2)⟩ (fun hHeld => ?_)
              clear hK K
              refine norm_ (a' := ?_) ?_ ?_
              rotate_left
              ·
               show Act.put _ (some 30) _ = _
               simp only [Act.put, zS, zT, zU, i64_w, i32_w]
               rfl
              refine pure_ (i := 3) (N := some 31) (v := ?_) (a' := ?_) #[zB,zB,zB,zB,zF,zF,zF,zF,zF,zF,zF,zF,zF,zF,zF,zF,zF,zF,zF,zF] rfl rfl (any_of HT_.out (by kernel_rfl)) (fun _ _ _ h => h) (Or.inl ⟨by rfl, ?_⟩) ?_ ?_
              rotate_left
              ·
               intro w'
               go_simp
               with_reducible rfl
              rotate_left
              ·
               simp only [Act.put, zS, zT, zU, i64_w, i32_w]
               rfl
              refine pure_ (i := 4) (N := some 32) (v := ?_) (a' := ?_) #[zB,zB,zB,zB,zB,zF,zF,zF,zF,zF,zF,zF,zF,zF,zF,zF,zF,zF,zF,zF] rfl rfl (any_of HT_.out (by kernel_rfl)) (fun _ _ _ h => h) (Or.inl ⟨by rfl, ?_⟩) ?_ ?_
              rotate_left
              ·
               intro w'
               go_simp
               with_reducible rfl
              rotate_left
              ·
               simp only [Act.put, zS, zT, zU, i64_w, i32_w]
               rfl
              refine pure_ (i := 5) (N := some 33) (v := ?_) (a' := ?_) #[zB,zB,zB,zB,zB,zB,zF,zF,zF,zF,zF,zF,zF,zF,zF,zF,zF,zF,zF,zF] rfl rfl (any_of HT_.out (by kernel_rfl)) (fun _ _ _ h => h) (Or.inl ⟨by rfl, ?_⟩) ?_ ?_
              rotate_left
              ·
               intro w'
               go_simp
               with_reducible rfl
              rotate_left
              ·
               simp only [Act.put, zS, zT, zU, i64_w, i32_w]
               rfl
              refine pure_ (i := 6) (N := some 34) (v := ?_) (a' := ?_) #[zB,zB,zB,zB,zB,zB,zB,zF,zF,zF,zF,zF,zF,zF,zF,zF,zF,zF,zF,zF] rfl rfl (any_of HT_.out (by kernel_rfl)) (fun _ _ _ h => h) (Or.inl ⟨by rfl, ?_⟩) ?_ ?_
              rotate_left
              ·
               intro w'
               go_simp
               with_reducible rfl
              rotate_left
              ·
               simp only [Act.put, zS, zT, zU, i64_w, i32_w]
               rfl
              refine pure_ (i := 7) (N := some 35) (v := ?_) (a' := ?_) #[zB,zB,zB,zB,zB,zB,zB,zB,zF,zF,zF,zF,zF,zF,zF,zF,zF,zF,zF,zF] rfl rfl (any_of HT_.out (by kernel_rfl)) (fun _ _ _ h => h) (Or.inl ⟨by rfl, ?_⟩) ?_ ?_
              rotate_left
              ·
               intro w'
               go_simp
               with_reducible rfl
              rotate_left
              ·
               simp only [Act.put, zS, zT, zU, i64_w, i32_w]
               rfl
              refine pure_ (i := 8) (N := some 36) (v := ?_) (a' := ?_) #[zB,zB,zB,zB,zB,zB,zB,zB,zB,zF,zF,zF,zF,zF,zF,zF,zF,zF,zF,zF] rfl rfl (any_of HT_.out (by kernel_rfl)) (fun _ _ _ h => h) (Or.inl ⟨by rfl, ?_⟩) ?_ ?_
              rotate_left
              ·
               intro w'
               go_simp
               with_reducible rfl
              rotate_left
              ·
               simp only [Act.put, zS, zT, zU, i64_w, i32_w]
               rfl
              refine pure_ (i := 10) (N := some 38) (v := ?_) (a' := ?_) #[zB,zB,zB,zB,zB,zB,zB,zB,zB,zF,zB,zF,zF,zF,zF,zF,zF,zF,zF,zF] rfl rfl (any_of HT_.out (by kernel_rfl)) (fun _ _ _ h => h) (Or.inl ⟨by rfl, ?_⟩) ?_ ?_
              rotate_left
              ·
               intro w'
               go_simp
               with_reducible rfl
              rotate_left
              ·
               simp only [Act.put, zS, zT, zU, i64_w, i32_w]
               rfl
              refine pure_ (i := 11) (N := some 39) (v := ?_) (a' := ?_) #[zB,zB,zB,zB,zB,zB,zB,zB,zB,zF,zB,zB,zF,zF,zF,zF,zF,zF,zF,zF] rfl rfl (any_of HT_.out (by kernel_rfl)) (fun _ _ _ h => h) (Or.inl ⟨by rfl, ?_⟩) ?_ ?_
              rotate_left
              ·
               intro w'
               go_simp
               with_reducible rfl
              rotate_left
              ·
               simp only [Act.put, zS, zT, zU, i64_w, i32_w]
               rfl
              refine pure_ (i := 12) (N := some 40) (v := ?_) (a' := ?_) #[zB,zB,zB,zB,zB,zB,zB,zB,zB,zF,zB,zB,zB,zF,zF,zF,zF,zF,zF,zF] rfl rfl (any_of HT_.out (by kernel_rfl)) (fun _ _ _ h => h) (Or.inl ⟨by rfl, ?_⟩) ?_ ?_
              rotate_left
              ·
               intro w'
               go_simp
               with_reducible rfl
              rotate_left
              ·
               simp only [Act.put, zS, zT, zU, i64_w, i32_w]
               rfl
              refine pure_ (i := 13) (N := some 41) (v := ?_) (a' := ?_) #[zB,zB,zB,zB,zB,zB,zB,zB,zB,zF,zB,zB,zB,zB,zF,zF,zF,zF,zF,zF] rfl rfl (any_of HT_.out (by kernel_rfl)) (fun _ _ _ h => h) (Or.inl ⟨by rfl, ?_⟩) ?_ ?_
              rotate_left
              ·
               intro w'
               go_simp
               with_reducible rfl
              rotate_left
              ·
               simp only [Act.put, zS, zT, zU, i64_w, i32_w]
               rfl
              refine pure_ (i := 14) (N := some 42) (v := ?_) (a' := ?_) #[zB,zB,zB,zB,zB,zB,zB,zB,zB,zF,zB,zB,zB,zB,zB,zF,zF,zF,zF,zF] rfl rfl (any_of HT_.out (by kernel_rfl)) (fun _ _ _ h => h) (Or.inl ⟨by rfl, ?_⟩) ?_ ?_
              rotate_left
              ·
               intro w'
               go_simp
               with_reducible rfl
              rotate_left
              ·
               simp only [Act.put, zS, zT, zU, i64_w, i32_w]
               rfl
              refine take_ (i := 9) (N := some 37) (v := ?_) (a' := ?_) #[zB,zB,zB,zB,zB,zB,zB,zB,zB,zB,zB,zB,zB,zB,zB,zF,zF,zF,zF,zF] rfl rfl (take_ofW HT_.out HW_.out (by kernel_rfl)) (fun _ _ _ h => h) (Or.inl ⟨by rfl, ?_⟩) hHeld ?_ ?_
              rotate_left
              ·
               rintro w' ⟨s0, s1, s2, s3, s4, s5⟩
               go_simp
               with_reducible rfl
              rotate_left
              ·
               simp only [Act.put, zS, zT, zU, i64_w, i32_w]
               rfl
              refine take_ (i := 15) (N := some 43) (v := ?_) (a' := ?_) #[zB,zB,zB,zB,zB,zB,zB,zB,zB,zB,zB,zB,zB,zB,zB,zB,zF,zF,zF,zF] rfl rfl (take_ofW HT_.out HW_.out (by kernel_rfl)) (fun _ _ _ h => h) (Or.inl ⟨by rfl, ?_⟩) hHeld ?_ ?_
              rotate_left
              ·
               rintro w' ⟨s0, s1, s2, s3, s4, s5⟩
               go_simp
               with_reducible rfl
              rotate_left
              ·
               simp only [Act.put, zS, zT, zU, i64_w, i32_w]
               rfl
              refine pure_ (i := 16) (N := some 44) (v := ?_) (a' := ?_) #[zB,zB,zB,zB,zB,zB,zB,zB,zB,zB,zB,zB,zB,zB,zB,zB,zB,zF,zF,zF] rfl rfl (any_of HT_.out (by kernel_rfl)) (fun _ _ _ h => h) (Or.inl ⟨by rfl, ?_⟩) ?_ ?_
              rotate_left
              ·
               intro w'
               go_simp
               with_reducible rfl
              rotate_left
              ·
               simp only [Act.put, zS, zT, zU, i64_w, i32_w]
               rfl
              refine pure_ (i := 17) (N := some 45) (v := ?_) (a' := ?_) #[zB,zB,zB,zB,zB,zB,zB,zB,zB,zB,zB,zB,zB,zB,zB,zB,zB,zB,zF,zF] rfl rfl (any_of HT_.out (by kernel_rfl)) (fun _ _ _ h => h) (Or.inl ⟨by rfl, ?_⟩) ?_ ?_
              rotate_left
              ·
               intro w'
               go_simp
               with_reducible rfl
              rotate_left
              ·
               simp only [Act.put, zS, zT, zU, i64_w, i32_w]
               rfl
              refine pure_ (i := 18) (N := some 46) (v := ?_) (a' := ?_) #[zB,zB,zB,zB,zB,zB,zB,zB,zB,zB,zB,zB,zB,zB,zB,zB,zB,zB,zB,zF] rfl rfl (any_of HT_.out (by kernel_rfl)) (fun _ _ _ h => h) (Or.inl ⟨by rfl, ?_⟩) ?_ ?_
              rotate_left
              ·
               intro w'
               go_simp
               with_reducible rfl
              rotate_left
              ·
               simp only [Act.put, zS, zT, zU, i64_w, i32_w]
               rfl
              refine pure_ (i := 19) (N := some 27) (v := ?_) (a' := ?_) #[zB,zB,zB,zB,zB,zB,zB,zB,zB,zB,zB,zB,zB,zB,zB,zB,zB,zB,zB,zB] rfl rfl (any_of HT_.out (by kernel_rfl)) (fun _ _ _ h => h) (Or.inl ⟨by rfl, ?_⟩) ?_ ?_
              rotate_left
              ·
               intro w'
               go_simp
               with_reducible rfl
              rotate_left
              ·
               simp only [Act.put, zS, zT, zU, i64_w, i32_w]
               rfl
              refine done_ (done_of HT_.out (by kernel_rfl)) ?_
              try go_wp2
              go_ret
              exact ⟨by first | rfl | (simp [errW_none, errW_some] <;> rfl) | (simp only [← hji13]; first | rfl | (simp [errW_none, errW_some] <;> rfl)) | (simp [*, errW_none, errW_some] <;> rfl), by repeat (first | (with_reducible first | exact HB.out | apply zA | apply zN | apply zD | refine below_set ?_ GE203.out) | exact HB.out)⟩
            ·
             rw [if_neg c15] at H
             exact absurd H (by simp)
           ·
            rw [if_neg c14] at H
            exact absurd H (by simp)
          ·
           rw [if_neg c12] at H
           have c12b0 : decide (0 < x12_1) = false := decide_eq_false c12
           clear c12
           have H' := zK H
           clear H
           have p202 : 0 ≤ (x12_1 : Int) := zX (by first | (with_reducible assumption) | assumption)
           have q202 : x12_1 < (l0.length : Int) := zX (by first | (with_reducible assumption) | assumption)
           obtain ⟨ad202, e202, hx202_0, hx202_1, hx202_2⟩ := at_T106 HR0.out x12_1 p202 q202
           cases e202
           replace hx202_0 := (HB.out.cell (zL w _ hx202_0)).trans hx202_0
           replace hx202_1 := (HB.out.cell (zL w _ hx202_1)).trans hx202_1
           replace hx202_2 := (HB.out.cell (zL w _ hx202_2)).trans hx202_2
           replace p202 := eq_true p202
           replace q202 := eq_true q202
           try go_wp2_with (first | ((with_reducible refine gate_dst (N := 4) rfl ?_); refine box_event ?hg (N := 4) ?hd (cs := #[.string (⟨#[]⟩ : ByteArray), .int .i64 0, .string (⟨#[]⟩ : ByteArray)]) (t := 106) ?hr ?_; (case hd => rfl); (case hg => rfl); (case hr => first | (go_simp; done) | (go_simp; rfl)); intro gb203 hg w29 hbox hb; have n0_ := zK (below_step (by repeat (first | (with_reducible first | exact HB.out | apply zA | apply zN | apply zD) | exact HB.out)) hb); have n1_ := zK (hbox); have n2_ := zK ((by rw [hg]; exact (below_size (by repeat (first | (with_reducible first | exact HB.out | apply zA | apply zN | apply zD) | exact HB.out))) : w.heap.size ≤ gb203)); have n3_ := zK ((by rw [hg]; exact (below_size (by repeat (first | (with_reducible first | exact HB.out | apply zA | apply zN | apply zD) | exact HB.out))) : w.heap.size ≤ gb203)); clear HB; have HB := n0_; have BK203 := n1_; have GW203 := n2_; have GE203 := n3_; clear n0_ n1_ n2_ n3_; clear hb hbox hg; have hcz30_0 : w29.cell? ⟨gb203, 0, none⟩ = some (.string (⟨#[]⟩ : ByteArray)) := (blk_cell BK203.out 0).trans rfl; have hcz30_1 : w29.cell? ⟨gb203, 1, none⟩ = some (.int .i64 0) := (blk_cell BK203.out 1).trans rfl; have hcz30_2 : w29.cell? ⟨gb203, 2, none⟩ = some (.string (⟨#[]⟩ : ByteArray)) := (blk_cell BK203.out 2).trans rfl; have hfz30_0 := blk_frozen BK203.out 0; have hfz30_1 := blk_frozen BK203.out 1; have hfz30_2 := blk_frozen BK203.out 2) | ((with_reducible refine gate_callee (f := 102) rfl ?_); refine goesL_ (some 20) rfl rfl Tryd.func102 (by kernel_rfl) rfl #[.string ((rd_T106 l0 x12_1).f0)] rfl (by (try simp only [List.map_toArray, List.map_cons, List.map_nil]); first | done | rfl | (simp only [List.length_drop, List.length_take]; rfl)) ?_; (with_reducible refine (impl_PathFault.calls ((rd_T106 l0 x12_1).f0) t204 _ A6.out).mono ?_); rintro e w31 ⟨rfl, hb⟩; refine ⟨_, rfl, ?_⟩; have n0_ := zK (blk_below (g := gb203) (o := .cells #[.string ((rd_T106 l0 x12_1).f0), .int .i64 ((rd_T106 l0 x12_1).f1), .string ((rd_T106 l0 x12_1).f2)] 106 (0, 0)) (by (with_reducible repeat (first | refine zM ?_ _ | refine zP ?_ | refine zQ ?_ _)); refine blk_put (cs := #[.string ((rd_T106 l0 x12_1).f0), .int .i64 ((rd_T106 l0 x12_1).f1), .string (⟨#[]⟩ : ByteArray)]) ?_ 2 _ rfl; (with_reducible repeat (first | refine zM ?_ _ | refine zP ?_ | refine zQ ?_ _)); refine blk_put (cs := #[.string ((rd_T106 l0 x12_1).f0), .int .i64 0, .string (⟨#[]⟩ : ByteArray)]) ?_ 1 _ rfl; (with_reducible repeat (first | refine zM ?_ _ | refine zP ?_ | refine zQ ?_ _)); refine blk_put (cs := #[.string (⟨#[]⟩ : ByteArray), .int .i64 0, .string (⟨#[]⟩ : ByteArray)]) ?_ 0 _ rfl; (with_reducible repeat (first | refine zM ?_ _ | refine zP ?_ | refine zQ ?_ _)); exact BK203.out) hb); have n1_ := zK (below_step (by repeat (first | (with_reducible first | exact HB.out | apply zA | apply zN | apply zD | refine below_set ?_ GE203.out) | exact HB.out)) hb); clear BK203; clear HB; have BK203 := n0_; have HB := n1_; clear n0_ n1_; (try clear hb); (try clear hb2); (try clear hk); (try clear hi); have hcz32_0 : w31.cell? ⟨gb203, 0, none⟩ = some (.string ((rd_T106 l0 x12_1).f0)) := (blk_cell BK203.out 0).trans rfl; have hcz32_1 : w31.cell? ⟨gb203, 1, none⟩ = some (.int .i64 ((rd_T106 l0 x12_1).f1)) := (blk_cell BK203.out 1).trans rfl; have hcz32_2 : w31.cell? ⟨gb203, 2, none⟩ = some (.string ((rd_T106 l0 x12_1).f2)) := (blk_cell BK203.out 2).trans rfl; have hfz32_0 := blk_frozen BK203.out 0; have hfz32_1 := blk_frozen BK203.out 1; have hfz32_2 := blk_frozen BK203.out 2) | ((with_reducible refine gate_callee (f := 104) rfl ?_); refine goesL_ (some 25) rfl rfl Tryd.func104 (by kernel_rfl) rfl #[.int .i64 ((rd_T106 l0 x12_1).f1)] rfl (by (try simp only [List.map_toArray, List.map_cons, List.map_nil]); first | done | rfl | (simp only [List.length_drop, List.length_take]; rfl)) ?_; (with_reducible refine (impl_isFileMode.calls ((rd_T106 l0 x12_1).f1) true _ A8.out).mono ?_); rintro e w' ⟨rfl, ⟨nd, rfl⟩⟩; refine ⟨_, rfl, ?_⟩))
           (try (rw [drewN_self w31]; generalize hq_ : World.drewN w31 _ = w31; have n0_ : Aside0 (w31.heap[gb203]? = some (.cells #[.string ((rd_T106 l0 x12_1).f0), .int .i64 ((rd_T106 l0 x12_1).f1), .string ((rd_T106 l0 x12_1).f2)] 106 (0, 0))) := ⟨by rw [← hq_]; exact (by (with_reducible repeat (first | refine zM ?_ _ | refine zP ?_ | refine zQ ?_ _)); exact BK203.out)⟩; have n1_ : Aside0 (Below w.heap.size w w31) := ⟨by rw [← hq_]; exact (by repeat (first | (with_reducible first | exact HB.out | apply zA | apply zN | apply zD | refine below_set ?_ GE203.out) | exact HB.out))⟩; clear BK203 HB hq_; have BK203 := n0_; have HB := n1_; clear n0_ n1_))
           have n0_ := zK (zP BK203.out)
           have n1_ := zK (zD HB.out)
           clear BK203
           clear HB
           have BK203 := n0_
           have HB := n1_
           clear n0_ n1_
           refine start_ (n := 20) (S := fun w' => w'.cell? ⟨gb203, 0, none⟩ = some (.string ((rd_T106 l0 x12_1).f0)) ∧ w'.cell? ⟨gb203, 1, none⟩ = some (.int .i64 ((rd_T106 l0 x12_1).f1)) ∧ w'.cell? ⟨gb203, 2, none⟩ = some (.string ((rd_T106 l0 x12_1).f2))) (ds := []) #[zF,zF,zF,zF,zF,zF,zF,zF,zF,zF,zF,zF,zF,zF,zF,zF,zF,zF,zF,zF] (by kernel_rfl) rfl rfl ⟨(blk_cell BK203.out 0).trans rfl, (blk_cell BK203.out 1).trans rfl, (blk_cell BK203.out 2).trans rfl⟩ (fun hHeld => ?_); refine with_tabW impl_FilesFault.tab10 impl_FilesFault.bits10 (fun HT_ HW_ => ?_)
           generalize w31.drew = w33 at BK203 HB hHeld ⊢
           refine pure_ (i := 0) (N := some 28) (v := ?_) (a' := ?_) #[zB,zF,zF,zF,zF,zF,zF,zF,zF,zF,zF,zF,zF,zF,zF,zF,zF,zF,zF,zF] rfl rfl (any_of HT_.out (by kernel_rfl)) (fun _ _ _ h => h) (Or.inl ⟨by rfl, ?_⟩) ?_ ?_
           rotate_left
           ·
            intro w'
            go_simp
            with_reducible rfl
           rotate_left
           ·
            simp only [Act.put, zS, zT, zU, i64_w, i32_w]
            rfl
           refine take_ (i := 1) (N := some 29) (v := ?_) (a' := ?_) #[zB,zB,zF,zF,zF,zF,zF,zF,zF,zF,zF,zF,zF,zF,zF,zF,zF,zF,zF,zF] rfl rfl (take_ofW HT_.out HW_.out (by kernel_rfl)) (fun _ _ _ h => h) (Or.inl ⟨by rfl, ?_⟩) hHeld ?_ ?_
           rotate_left
           ·
            rintro w' ⟨s0, s1, s2⟩
            go_simp
            with_reducible rfl
           rotate_left
           ·
            simp only [Act.put, zS, zT, zU, i64_w, i32_w]
            rfl
           refine one_ (i := 2) (N := some 30) #[zB,zB,zB,zF,zF,zF,zF,zF,zF,zF,zF,zF,zF,zF,zF,zF,zF,zF,zF,zF] rfl rfl (one_of HT_.out (by kernel_rfl)) (by decide) (fun K hK => ?_)
           refine goes_ Tryd.func105 (by kernel_rfl) rfl #[.int .i64 1, .string ((rd_T106 l0 x12_1).f2)] (by rfl) rfl rfl (by (try simp only [List.map_toArray, List.map_cons, List.map_nil]); first | done | rfl | (simp only [List.length_drop, List.length_take]; rfl)) ?_
           with_reducible refine (impl_isIdOf.calls 1 ((rd_T106 l0 x12_1).f2) true _ A10.out).mono ?_
           rintro e w34 ⟨rfl, hb⟩
           refine ⟨_, rfl, ?_⟩
           have n0_ := zK (blk_below (g := gb203) (o := .cells #[.string ((rd_T106 l0 x12_1).f0), .int .i64 ((rd_T106 l0 x12_1).f1), .string ((rd_T106 l0 x12_1).f2)] 106 (0, 0)) (by (with_reducible repeat (first | refine zM ?_ _ | refine zP ?_ | refine zQ ?_ _)); exact BK203.out) hb)
           have n1_ := zK (below_step (by repeat (first | (with_reducible first | exact HB.out | apply zA | apply zN | apply zD | refine below_set ?_ GE203.out) | exact HB.out)) hb)
           clear BK203
           clear HB
           have BK203 := n0_
           have HB := n1_
           clear n0_ n1_
           (try clear hb)
           (try clear hb2)
           (try clear hk)
           (try clear hi)
           refine hK.out _ _ ⟨(blk_cell BK203.out 0).trans rfl, (blk_cell BK203.out 1).trans rfl, (blk_cell BK203.out 2).trans rfl⟩ (fun hHeld => ?_)
           clear hK K
           refine norm_ (a' := ?_) ?_ ?_
           rotate_left
           ·
            show Act.put _ (some 30) _ = _
            simp only [Act.put, zS, zT, zU, i64_w, i32_w]
            rfl
           refine pure_ (i := 3) (N := some 31) (v := ?_) (a' := ?_) #[zB,zB,zB,zB,zF,zF,zF,zF,zF,zF,zF,zF,zF,zF,zF,zF,zF,zF,zF,zF] rfl rfl (any_of HT_.out (by kernel_rfl)) (fun _ _ _ h => h) (Or.inl ⟨by rfl, ?_⟩) ?_ ?_
           rotate_left
           ·
            intro w'
            go_simp
            with_reducible rfl
           rotate_left
           ·
            simp only [Act.put, zS, zT, zU, i64_w, i32_w]
            rfl
           refine pure_ (i := 4) (N := some 32) (v := ?_) (a' := ?_) #[zB,zB,zB,zB,zB,zF,zF,zF,zF,zF,zF,zF,zF,zF,zF,zF,zF,zF,zF,zF] rfl rfl (any_of HT_.out (by kernel_rfl)) (fun _ _ _ h => h) (Or.inl ⟨by rfl, ?_⟩) ?_ ?_
           rotate_left
           ·
            intro w'
            go_simp
            with_reducible rfl
           rotate_left
           ·
            simp only [Act.put, zS, zT, zU, i64_w, i32_w]
            rfl
           refine pure_ (i := 5) (N := some 33) (v := ?_) (a' := ?_) #[zB,zB,zB,zB,zB,zB,zF,zF,zF,zF,zF,zF,zF,zF,zF,zF,zF,zF,zF,zF] rfl rfl (any_of HT_.out (by kernel_rfl)) (fun _ _ _ h => h) (Or.inl ⟨by rfl, ?_⟩) ?_ ?_
           rotate_left
           ·
            intro w'
            go_simp
            with_reducible rfl
           rotate_left
           ·
            simp only [Act.put, zS, zT, zU, i64_w, i32_w]
            rfl
           refine pure_ (i := 6) (N := some 34) (v := ?_) (a' := ?_) #[zB,zB,zB,zB,zB,zB,zB,zF,zF,zF,zF,zF,zF,zF,zF,zF,zF,zF,zF,zF] rfl rfl (any_of HT_.out (by kernel_rfl)) (fun _ _ _ h => h) (Or.inl ⟨by rfl, ?_⟩) ?_ ?_
           rotate_left
           ·
            intro w'
            go_simp
            with_reducible rfl
           rotate_left
           ·
            simp only [Act.put, zS, zT, zU, i64_w, i32_w]
            rfl
           refine pure_ (i := 7) (N := some 35) (v := ?_) (a' := ?_) #[zB,zB,zB,zB,zB,zB,zB,zB,zF,zF,zF,zF,zF,zF,zF,zF,zF,zF,zF,zF] rfl rfl (any_of HT_.out (by kernel_rfl)) (fun _ _ _ h => h) (Or.inl ⟨by rfl, ?_⟩) ?_ ?_
           rotate_left
           ·
            intro w'
            go_simp
            with_reducible rfl
           rotate_left
           ·
            simp only [Act.put, zS, zT, zU, i64_w, i32_w]
            rfl
           refine pure_ (i := 8) (N := some 36) (v := undef) (a' := ?_) #[zB,zB,zB,zB,zB,zB,zB,zB,zB,zF,zF,zF,zF,zF,zF,zF,zF,zF,zF,zF] rfl rfl (any_of HT_.out (by kernel_rfl)) (fun _ _ _ h => h) (Or.inr ⟨by rfl, rfl⟩) ?_ ?_
           rotate_left
           ·
            simp only [Act.put, zS, zT, zU, i64_w, i32_w]
            rfl
           refine pure_ (i := 9) (N := some 37) (v := undef) (a' := ?_) #[zB,zB,zB,zB,zB,zB,zB,zB,zB,zB,zF,zF,zF,zF,zF,zF,zF,zF,zF,zF] rfl rfl (any_of HT_.out (by kernel_rfl)) (fun _ _ _ h => h) (Or.inr ⟨by rfl, rfl⟩) ?_ ?_
           rotate_left
           ·
            simp only [Act.put, zS, zT, zU, i64_w, i32_w]
            rfl
           refine pure_ (i := 10) (N := some 38) (v := undef) (a' := ?_) #[zB,zB,zB,zB,zB,zB,zB,zB,zB,zB,zB,zF,zF,zF,zF,zF,zF,zF,zF,zF] rfl rfl (any_of HT_.out (by kernel_rfl)) (fun _ _ _ h => h) (Or.inr ⟨by rfl, rfl⟩) ?_ ?_
           rotate_left
           ·
            simp only [Act.put, zS, zT, zU, i64_w, i32_w]
            rfl
           refine pure_ (i := 11) (N := some 39) (v := undef) (a' := ?_) #[zB,zB,zB,zB,zB,zB,zB,zB,zB,zB,zB,zB,zF,zF,zF,zF,zF,zF,zF,zF] rfl rfl (any_of HT_.out (by kernel_rfl)) (fun _ _ _ h => h) (Or.inr ⟨by rfl, rfl⟩) ?_ ?_
           rotate_left
           ·
            simp only [Act.put, zS, zT, zU, i64_w, i32_w]
            rfl
           refine pure_ (i := 12) (N := some 40) (v := undef) (a' := ?_) #[zB,zB,zB,zB,zB,zB,zB,zB,zB,zB,zB,zB,zB,zF,zF,zF,zF,zF,zF,zF] rfl rfl (any_of HT_.out (by kernel_rfl)) (fun _ _ _ h => h) (Or.inr ⟨by rfl, rfl⟩) ?_ ?_
           rotate_left
           ·
            simp only [Act.put, zS, zT, zU, i64_w, i32_w]
            rfl
           refine pure_ (i := 13) (N := some 41) (v := undef) (a' := ?_) #[zB,zB,zB,zB,zB,zB,zB,zB,zB,zB,zB,zB,zB,zB,zF,zF,zF,zF,zF,zF] rfl rfl (any_of HT_.out (by kernel_rfl)) (fun _ _ _ h => h) (Or.inr ⟨by rfl, rfl⟩) ?_ ?_
           rotate_left
           ·
            simp only [Act.put, zS, zT, zU, i64_w, i32_w]
            rfl
           refine pure_ (i := 14) (N := some 42) (v := undef) (a' := ?_) #[zB,zB,zB,zB,zB,zB,zB,zB,zB,zB,zB,zB,zB,zB,zB,zF,zF,zF,zF,zF] rfl rfl (any_of HT_.out (by kernel_rfl)) (fun _ _ _ h => h) (Or.inr ⟨by rfl, rfl⟩) ?_ ?_
           rotate_left
           ·
            simp only [Act.put, zS, zT, zU, i64_w, i32_w]
            rfl
           refine pure_ (i := 15) (N := some 43) (v := undef) (a' := ?_) #[zB,zB,zB,zB,zB,zB,zB,zB,zB,zB,zB,zB,zB,zB,zB,zB,zF,zF,zF,zF] rfl rfl (any_of HT_.out (by kernel_rfl)) (fun _ _ _ h => h) (Or.inr ⟨by rfl, rfl⟩) ?_ ?_
           rotate_left
           ·
            simp only [Act.put, zS, zT, zU, i64_w, i32_w]
            rfl
           refine pure_ (i := 16) (N := some 44) (v := undef) (a' := ?_) #[zB,zB,zB,zB,zB,zB,zB,zB,zB,zB,zB,zB,zB,zB,zB,zB,zB,zF,zF,zF] rfl rfl (any_of HT_.out (by kernel_rfl)) (fun _ _ _ h => h) (Or.inr ⟨by rfl, rfl⟩) ?_ ?_
           rotate_left
           ·
            simp only [Act.put, zS, zT, zU, i64_w, i32_w]
            rfl
           refine pure_ (i := 17) (N := some 45) (v := ?_) (a' := ?_) #[zB,zB,zB,zB,zB,zB,zB,zB,zB,zB,zB,zB,zB,zB,zB,zB,zB,zB,zF,zF] rfl rfl (any_of HT_.out (by kernel_rfl)) (fun _ _ _ h => h) (Or.inl ⟨by rfl, ?_⟩) ?_ ?_
           rotate_left
           ·
            intro w'
            go_simp
            with_reducible rfl
           rotate_left
           ·
            simp only [Act.put, zS, zT, zU, i64_w, i32_w]
            rfl
           refine pure_ (i := 18) (N := some 46) (v := ?_) (a' := ?_) #[zB,zB,zB,zB,zB,zB,zB,zB,zB,zB,zB,zB,zB,zB,zB,zB,zB,zB,zB,zF] rfl rfl (any_of HT_.out (by kernel_rfl)) (fun _ _ _ h => h) (Or.inl ⟨by rfl, ?_⟩) ?_ ?_
           rotate_left
           ·
            intro w'
            go_simp
            with_reducible rfl
           rotate_left
           ·
            simp only [Act.put, zS, zT, zU, i64_w, i32_w]
            rfl
           refine pure_ (i := 19) (N := some 27) (v := ?_) (a' := ?_) #[zB,zB,zB,zB,zB,zB,zB,zB,zB,zB,zB,zB,zB,zB,zB,zB,zB,zB,zB,zB] rfl rfl (any_of HT_.out (by kernel_rfl)) (fun _ _ _ h => h) (Or.inl ⟨by rfl, ?_⟩) ?_ ?_
           rotate_left
           ·
            intro w'
            go_simp
            with_reducible rfl
           rotate_left
           ·
            simp only [Act.put, zS, zT, zU, i64_w, i32_w]
            rfl
           refine done_ (done_of HT_.out (by kernel_rfl)) ?_
           try go_wp2
           go_roundg k1
           case measure => have := HK1.out; omega
           case rel => exact ⟨(wrap64 (x12_1 + 1)), (by first | rfl | (simp; done) | (simp [*]; done)), H', ⟨by have := HK1.out; omega⟩, ⟨by repeat (first | (with_reducible first | exact HB.out | apply zA | apply zN | apply zD | refine below_set ?_ GE203.out) | exact HB.out)⟩⟩
         ·
          replace c11 := Bool.eq_false_iff.mpr c11
          subst c11
          have H1 : (some 1) = some r := by rw [if_neg (show ¬ (false = true) by decide)] at H; exact H
          clear H
          have H := H1
          clear H1
          obtain rfl := Option.some.inj H
          have p202 : 0 ≤ (x12_1 : Int) := zX (by first | (with_reducible assumption) | assumption)
          have q202 : x12_1 < (l0.length : Int) := zX (by first | (with_reducible assumption) | assumption)
          obtain ⟨ad202, e202, hx202_0, hx202_1, hx202_2⟩ := at_T106 HR0.out x12_1 p202 q202
          cases e202
          replace hx202_0 := (HB.out.cell (zL w _ hx202_0)).trans hx202_0
          replace hx202_1 := (HB.out.cell (zL w _ hx202_1)).trans hx202_1
          replace hx202_2 := (HB.out.cell (zL w _ hx202_2)).trans hx202_2
          replace p202 := eq_true p202
          replace q202 := eq_true q202
          try go_wp2_with (first | ((with_reducible refine gate_dst (N := 4) rfl ?_); refine box_event ?hg (N := 4) ?hd (cs := #[.string (⟨#[]⟩ : ByteArray), .int .i64 0, .string (⟨#[]⟩ : ByteArray)]) (t := 106) ?hr ?_; (case hd => rfl); (case hg => rfl); (case hr => first | (go_simp; done) | (go_simp; rfl)); intro gb203 hg w35 hbox hb; have n0_ := zK (below_step (by repeat (first | (with_reducible first | exact HB.out | apply zA | apply zN | apply zD) | exact HB.out)) hb); have n1_ := zK (hbox); have n2_ := zK ((by rw [hg]; exact (below_size (by repeat (first | (with_reducible first | exact HB.out | apply zA | apply zN | apply zD) | exact HB.out))) : w.heap.size ≤ gb203)); have n3_ := zK ((by rw [hg]; exact (below_size (by repeat (first | (with_reducible first | exact HB.out | apply zA | apply zN | apply zD) | exact HB.out))) : w.heap.size ≤ gb203)); clear HB; have HB := n0_; have BK203 := n1_; have GW203 := n2_; have GE203 := n3_; clear n0_ n1_ n2_ n3_; clear hb hbox hg; have hcz36_0 : w35.cell? ⟨gb203, 0, none⟩ = some (.string (⟨#[]⟩ : ByteArray)) := (blk_cell BK203.out 0).trans rfl; have hcz36_1 : w35.cell? ⟨gb203, 1, none⟩ = some (.int .i64 0) := (blk_cell BK203.out 1).trans rfl; have hcz36_2 : w35.cell? ⟨gb203, 2, none⟩ = some (.string (⟨#[]⟩ : ByteArray)) := (blk_cell BK203.out 2).trans rfl; have hfz36_0 := blk_frozen BK203.out 0; have hfz36_1 := blk_frozen BK203.out 1; have hfz36_2 := blk_frozen BK203.out 2) | ((with_reducible refine gate_callee (f := 102) rfl ?_); refine goesL_ (some 20) rfl rfl Tryd.func102 (by kernel_rfl) rfl #[.string ((rd_T106 l0 x12_1).f0)] rfl (by (try simp only [List.map_toArray, List.map_cons, List.map_nil]); first | done | rfl | (simp only [List.length_drop, List.length_take]; rfl)) ?_; (with_reducible refine (impl_PathFault.calls ((rd_T106 l0 x12_1).f0) t204 _ A6.out).mono ?_); rintro e w37 ⟨rfl, hb⟩; refine ⟨_, rfl, ?_⟩; have n0_ := zK (blk_below (g := gb203) (o := .cells #[.string ((rd_T106 l0 x12_1).f0), .int .i64 ((rd_T106 l0 x12_1).f1), .string ((rd_T106 l0 x12_1).f2)] 106 (0, 0)) (by (with_reducible repeat (first | refine zM ?_ _ | refine zP ?_ | refine zQ ?_ _)); refine blk_put (cs := #[.string ((rd_T106 l0 x12_1).f0), .int .i64 ((rd_T106 l0 x12_1).f1), .string (⟨#[]⟩ : ByteArray)]) ?_ 2 _ rfl; (with_reducible repeat (first | refine zM ?_ _ | refine zP ?_ | refine zQ ?_ _)); refine blk_put (cs := #[.string ((rd_T106 l0 x12_1).f0), .int .i64 0, .string (⟨#[]⟩ : ByteArray)]) ?_ 1 _ rfl; (with_reducible repeat (first | refine zM ?_ _ | refine zP ?_ | refine zQ ?_ _)); refine blk_put (cs := #[.string (⟨#[]⟩ : ByteArray), .int .i64 0, .string (⟨#[]⟩ : ByteArray)]) ?_ 0 _ rfl; (with_reducible repeat (first | refine zM ?_ _ | refine zP ?_ | refine zQ ?_ _)); exact BK203.out) hb); have n1_ := zK (below_step (by repeat (first | (with_reducible first | exact HB.out | apply zA | apply zN | apply zD | refine below_set ?_ GE203.out) | exact HB.out)) hb); clear BK203; clear HB; have BK203 := n0_; have HB := n1_; clear n0_ n1_; (try clear hb); (try clear hb2); (try clear hk); (try clear hi); have hcz38_0 : w37.cell? ⟨gb203, 0, none⟩ = some (.string ((rd_T106 l0 x12_1).f0)) := (blk_cell BK203.out 0).trans rfl; have hcz38_1 : w37.cell? ⟨gb203, 1, none⟩ = some (.int .i64 ((rd_T106 l0 x12_1).f1)) := (blk_cell BK203.out 1).trans rfl; have hcz38_2 : w37.cell? ⟨gb203, 2, none⟩ = some (.string ((rd_T106 l0 x12_1).f2)) := (blk_cell BK203.out 2).trans rfl; have hfz38_0 := blk_frozen BK203.out 0; have hfz38_1 := blk_frozen BK203.out 1; have hfz38_2 := blk_frozen BK203.out 2) | ((with_reducible refine gate_callee (f := 104) rfl ?_); refine goesL_ (some 25) rfl rfl Tryd.func104 (by kernel_rfl) rfl #[.int .i64 ((rd_T106 l0 x12_1).f1)] rfl (by (try simp only [List.map_toArray, List.map_cons, List.map_nil]); first | done | rfl | (simp only [List.length_drop, List.length_take]; rfl)) ?_; (with_reducible refine (impl_isFileMode.calls ((rd_T106 l0 x12_1).f1) true _ A8.out).mono ?_); rintro e w' ⟨rfl, ⟨nd, rfl⟩⟩; refine ⟨_, rfl, ?_⟩))
          (try (rw [drewN_self w37]; generalize hq_ : World.drewN w37 _ = w37; have n0_ : Aside0 (w37.heap[gb203]? = some (.cells #[.string ((rd_T106 l0 x12_1).f0), .int .i64 ((rd_T106 l0 x12_1).f1), .string ((rd_T106 l0 x12_1).f2)] 106 (0, 0))) := ⟨by rw [← hq_]; exact (by (with_reducible repeat (first | refine zM ?_ _ | refine zP ?_ | refine zQ ?_ _)); exact BK203.out)⟩; have n1_ : Aside0 (Below w.heap.size w w37) := ⟨by rw [← hq_]; exact (by repeat (first | (with_reducible first | exact HB.out | apply zA | apply zN | apply zD | refine below_set ?_ GE203.out) | exact HB.out))⟩; clear BK203 HB hq_; have BK203 := n0_; have HB := n1_; clear n0_ n1_))
          have n0_ := zK (zP BK203.out)
          have n1_ := zK (zD HB.out)
          clear BK203
          clear HB
          have BK203 := n0_
          have HB := n1_
          clear n0_ n1_
          refine start_ (n := 20) (S := fun w' => w'.cell? ⟨gb203, 0, none⟩ = some (.string ((rd_T106 l0 x12_1).f0)) ∧ w'.cell? ⟨gb203, 1, none⟩ = some (.int .i64 ((rd_T106 l0 x12_1).f1)) ∧ w'.cell? ⟨gb203, 2, none⟩ = some (.string ((rd_T106 l0 x12_1).f2))) (ds := []) #[zF,zF,zF,zF,zF,zF,zF,zF,zF,zF,zF,zF,zF,zF,zF,zF,zF,zF,zF,zF] (by kernel_rfl) rfl rfl ⟨(blk_cell BK203.out 0).trans rfl, (blk_cell BK203.out 1).trans rfl, (blk_cell BK203.out 2).trans rfl⟩ (fun hHeld => ?_); refine with_tabW impl_FilesFault.tab10 impl_FilesFault.bits10 (fun HT_ HW_ => ?_)
          generalize w37.drew = w39 at BK203 HB hHeld ⊢
          refine pure_ (i := 0) (N := some 28) (v := ?_) (a' := ?_) #[zB,zF,zF,zF,zF,zF,zF,zF,zF,zF,zF,zF,zF,zF,zF,zF,zF,zF,zF,zF] rfl rfl (any_of HT_.out (by kernel_rfl)) (fun _ _ _ h => h) (Or.inl ⟨by rfl, ?_⟩) ?_ ?_
          rotate_left
          ·
           intro w'
           go_simp
           with_reducible rfl
          rotate_left
          ·
           simp only [Act.put, zS, zT, zU, i64_w, i32_w]
           rfl
          refine take_ (i := 1) (N := some 29) (v := ?_) (a' := ?_) #[zB,zB,zF,zF,zF,zF,zF,zF,zF,zF,zF,zF,zF,zF,zF,zF,zF,zF,zF,zF] rfl rfl (take_ofW HT_.out HW_.out (by kernel_rfl)) (fun _ _ _ h => h) (Or.inl ⟨by rfl, ?_⟩) hHeld ?_ ?_
          rotate_left
          ·
           rintro w' ⟨s0, s1, s2⟩
           go_simp
           with_reducible rfl
          rotate_left
          ·
           simp only [Act.put, zS, zT, zU, i64_w, i32_w]
           rfl
          refine one_ (i := 2) (N := some 30) #[zB,zB,zB,zF,zF,zF,zF,zF,zF,zF,zF,zF,zF,zF,zF,zF,zF,zF,zF,zF] rfl rfl (one_of HT_.out (by kernel_rfl)) (by decide) (fun K hK => ?_)
          refine goes_ Tryd.func105 (by kernel_rfl) rfl #[.int .i64 1, .string ((rd_T106 l0 x12_1).f2)] (by rfl) rfl rfl (by (try simp only [List.map_toArray, List.map_cons, List.map_nil]); first | done | rfl | (simp only [List.length_drop, List.length_take]; rfl)) ?_
          with_reducible refine (impl_isIdOf.calls 1 ((rd_T106 l0 x12_1).f2) false _ A10.out).mono ?_
          rintro e w40 ⟨rfl, hb⟩
          refine ⟨_, rfl, ?_⟩
          have n0_ := zK (blk_below (g := gb203) (o := .cells #[.string ((rd_T106 l0 x12_1).f0), .int .i64 ((rd_T106 l0 x12_1).f1), .string ((rd_T106 l0 x12_1).f2)] 106 (0, 0)) (by (with_reducible repeat (first | refine zM ?_ _ | refine zP ?_ | refine zQ ?_ _)); exact BK203.out) hb)
          have n1_ := zK (below_step (by repeat (first | (with_reducible first | exact HB.out | apply zA | apply zN | apply zD | refine below_set ?_ GE203.out) | exact HB.out)) hb)
          clear BK203
          clear HB
          have BK203 := n0_
          have HB := n1_
          clear n0_ n1_
          (try clear hb)
          (try clear hb2)
          (try clear hk)
          (try clear hi)
          refine hK.out _ _ ⟨(blk_cell BK203.out 0).trans rfl, (blk_cell BK203.out 1).trans rfl, (blk_cell BK203.out 2).trans rfl⟩ (fun hHeld => ?_)
          clear hK K
          refine norm_ (a' := ?_) ?_ ?_
          rotate_left
          ·
           show Act.put _ (some 30) _ = _
           simp only [Act.put, zS, zT, zU, i64_w, i32_w]
           rfl
          refine pure_ (i := 3) (N := some 31) (v := ?_) (a' := ?_) #[zB,zB,zB,zB,zF,zF,zF,zF,zF,zF,zF,zF,zF,zF,zF,zF,zF,zF,zF,zF] rfl rfl (any_of HT_.out (by kernel_rfl)) (fun _ _ _ h => h) (Or.inl ⟨by rfl, ?_⟩) ?_ ?_
          rotate_left
          ·
           intro w'
           go_simp
           with_reducible rfl
          rotate_left
          ·
           simp only [Act.put, zS, zT, zU, i64_w, i32_w]
           rfl
          refine pure_ (i := 4) (N := some 32) (v := ?_) (a' := ?_) #[zB,zB,zB,zB,zB,zF,zF,zF,zF,zF,zF,zF,zF,zF,zF,zF,zF,zF,zF,zF] rfl rfl (any_of HT_.out (by kernel_rfl)) (fun _ _ _ h => h) (Or.inl ⟨by rfl, ?_⟩) ?_ ?_
          rotate_left
          ·
           intro w'
           go_simp
           with_reducible rfl
          rotate_left
          ·
           simp only [Act.put, zS, zT, zU, i64_w, i32_w]
           rfl
          refine pure_ (i := 5) (N := some 33) (v := undef) (a' := ?_) #[zB,zB,zB,zB,zB,zB,zF,zF,zF,zF,zF,zF,zF,zF,zF,zF,zF,zF,zF,zF] rfl rfl (any_of HT_.out (by kernel_rfl)) (fun _ _ _ h => h) (Or.inr ⟨by rfl, rfl⟩) ?_ ?_
          rotate_left
          ·
           simp only [Act.put, zS, zT, zU, i64_w, i32_w]
           rfl
          refine pure_ (i := 6) (N := some 34) (v := undef) (a' := ?_) #[zB,zB,zB,zB,zB,zB,zB,zF,zF,zF,zF,zF,zF,zF,zF,zF,zF,zF,zF,zF] rfl rfl (any_of HT_.out (by kernel_rfl)) (fun _ _ _ h => h) (Or.inr ⟨by rfl, rfl⟩) ?_ ?_
          rotate_left
          ·
           simp only [Act.put, zS, zT, zU, i64_w, i32_w]
           rfl
          refine pure_ (i := 7) (N := some 35) (v := undef) (a' := ?_) #[zB,zB,zB,zB,zB,zB,zB,zB,zF,zF,zF,zF,zF,zF,zF,zF,zF,zF,zF,zF] rfl rfl (any_of HT_.out (by kernel_rfl)) (fun _ _ _ h => h) (Or.inr ⟨by rfl, rfl⟩) ?_ ?_
          rotate_left
          ·
           simp only [Act.put, zS, zT, zU, i64_w, i32_w]
           rfl
          refine pure_ (i := 8) (N := some 36) (v := undef) (a' := ?_) #[zB,zB,zB,zB,zB,zB,zB,zB,zB,zF,zF,zF,zF,zF,zF,zF,zF,zF,zF,zF] rfl rfl (any_of HT_.out (by kernel_rfl)) (fun _ _ _ h => h) (Or.inr ⟨by rfl, rfl⟩) ?_ ?_
          rotate_left
          ·
           simp only [Act.put, zS, zT, zU, i64_w, i32_w]
           rfl
          refine pure_ (i := 9) (N := some 37) (v := undef) (a' := ?_) #[zB,zB,zB,zB,zB,zB,zB,zB,zB,zB,zF,zF,zF,zF,zF,zF,zF,zF,zF,zF] rfl rfl (any_of HT_.out (by kernel_rfl)) (fun _ _ _ h => h) (Or.inr ⟨by rfl, rfl⟩) ?_ ?_
          rotate_left
          ·
           simp only [Act.put, zS, zT, zU, i64_w, i32_w]
           rfl
          refine pure_ (i := 10) (N := some 38) (v := undef) (a' := ?_) #[zB,zB,zB,zB,zB,zB,zB,zB,zB,zB,zB,zF,zF,zF,zF,zF,zF,zF,zF,zF] rfl rfl (any_of HT_.out (by kernel_rfl)) (fun _ _ _ h => h) (Or.inr ⟨by rfl, rfl⟩) ?_ ?_
          rotate_left
          ·
           simp only [Act.put, zS, zT, zU, i64_w, i32_w]
           rfl
          refine pure_ (i := 11) (N := some 39) (v := undef) (a' := ?_) #[zB,zB,zB,zB,zB,zB,zB,zB,zB,zB,zB,zB,zF,zF,zF,zF,zF,zF,zF,zF] rfl rfl (any_of HT_.out (by kernel_rfl)) (fun _ _ _ h => h) (Or.inr ⟨by rfl, rfl⟩) ?_ ?_
          rotate_left
          ·
           simp only [Act.put, zS, zT, zU, i64_w, i32_w]
           rfl
          refine pure_ (i := 12) (N := some 40) (v := undef) (a' := ?_) #[zB,zB,zB,zB,zB,zB,zB,zB,zB,zB,zB,zB,zB,zF,zF,zF,zF,zF,zF,zF] rfl rfl (any_of HT_.out (by kernel_rfl)) (fun _ _ _ h => h) (Or.inr ⟨by rfl, rfl⟩) ?_ ?_
          rotate_left
          ·
           simp only [Act.put, zS, zT, zU, i64_w, i32_w]
           rfl
          refine pure_ (i := 13) (N := some 41) (v := undef) (a' := ?_) #[zB,zB,zB,zB,zB,zB,zB,zB,zB,zB,zB,zB,zB,zB,zF,zF,zF,zF,zF,zF] rfl rfl (any_of HT_.out (by kernel_rfl)) (fun _ _ _ h => h) (Or.inr ⟨by rfl, rfl⟩) ?_ ?_
          rotate_left
          ·
           simp only [Act.put, zS, zT, zU, i64_w, i32_w]
           rfl
          refine pure_ (i := 14) (N := some 42) (v := undef) (a' := ?_) #[zB,zB,zB,zB,zB,zB,zB,zB,zB,zB,zB,zB,zB,zB,zB,zF,zF,zF,zF,zF] rfl rfl (any_of HT_.out (by kernel_rfl)) (fun _ _ _ h => h) (Or.inr ⟨by rfl, rfl⟩) ?_ ?_
          rotate_left
          ·
           simp only [Act.put, zS, zT, zU, i64_w, i32_w]
           rfl
          refine pure_ (i := 15) (N := some 43) (v := undef) (a' := ?_) #[zB,zB,zB,zB,zB,zB,zB,zB,zB,zB,zB,zB,zB,zB,zB,zB,zF,zF,zF,zF] rfl rfl (any_of HT_.out (by kernel_rfl)) (fun _ _ _ h => h) (Or.inr ⟨by rfl, rfl⟩) ?_ ?_
          rotate_left
          ·
           simp only [Act.put, zS, zT, zU, i64_w, i32_w]
           rfl
          refine pure_ (i := 16) (N := some 44) (v := undef) (a' := ?_) #[zB,zB,zB,zB,zB,zB,zB,zB,zB,zB,zB,zB,zB,zB,zB,zB,zB,zF,zF,zF] rfl rfl (any_of HT_.out (by kernel_rfl)) (fun _ _ _ h => h) (Or.inr ⟨by rfl, rfl⟩) ?_ ?_
          rotate_left
          ·
           simp only [Act.put, zS, zT, zU, i64_w, i32_w]
           rfl
          refine pure_ (i := 17) (N := some 45) (v := undef) (a' := ?_) #[zB,zB,zB,zB,zB,zB,zB,zB,zB,zB,zB,zB,zB,zB,zB,zB,zB,zB,zF,zF] rfl rfl (any_of HT_.out (by kernel_rfl)) (fun _ _ _ h => h) (Or.inr ⟨by rfl, rfl⟩) ?_ ?_
          rotate_left
          ·
           simp only [Act.put, zS, zT, zU, i64_w, i32_w]
           rfl
          refine pure_ (i := 18) (N := some 46) (v := ?_) (a' := ?_) #[zB,zB,zB,zB,zB,zB,zB,zB,zB,zB,zB,zB,zB,zB,zB,zB,zB,zB,zB,zF] rfl rfl (any_of HT_.out (by kernel_rfl)) (fun _ _ _ h => h) (Or.inl ⟨by rfl, ?_⟩) ?_ ?_
          rotate_left
          ·
           intro w'
           go_simp
           with_reducible rfl
          rotate_left
          ·
           simp only [Act.put, zS, zT, zU, i64_w, i32_w]
           rfl
          refine pure_ (i := 19) (N := some 27) (v := ?_) (a' := ?_) #[zB,zB,zB,zB,zB,zB,zB,zB,zB,zB,zB,zB,zB,zB,zB,zB,zB,zB,zB,zB] rfl rfl (any_of HT_.out (by kernel_rfl)) (fun _ _ _ h => h) (Or.inl ⟨by rfl, ?_⟩) ?_ ?_
          rotate_left
          ·
           intro w'
           go_simp
           with_reducible rfl
          rotate_left
          ·
           simp only [Act.put, zS, zT, zU, i64_w, i32_w]
           rfl
          refine done_ (done_of HT_.out (by kernel_rfl)) ?_
          try go_wp2
          go_ret
          exact ⟨by first | rfl | (simp [errW_none, errW_some] <;> rfl) | (simp [*, errW_none, errW_some] <;> rfl), by repeat (first | (with_reducible first | exact HB.out | apply zA | apply zN | apply zD | refine below_set ?_ GE203.out) | exact HB.out)⟩
        ·
         replace c9 := Bool.eq_false_iff.mpr c9
         subst c9
         have H1 : (some 3) = some r := by rw [if_neg (show ¬ (false = true) by decide)] at H; exact H
         clear H
         have H := H1
         clear H1
         obtain rfl := Option.some.inj H
         have p202 : 0 ≤ (x12_1 : Int) := zX (by first | (with_reducible assumption) | assumption)
         have q202 : x12_1 < (l0.length : Int) := zX (by first | (with_reducible assumption) | assumption)
         obtain ⟨ad202, e202, hx202_0, hx202_1, hx202_2⟩ := at_T106 HR0.out x12_1 p202 q202
         cases e202
         replace hx202_0 := (HB.out.cell (zL w _ hx202_0)).trans hx202_0
         replace hx202_1 := (HB.out.cell (zL w _ hx202_1)).trans hx202_1
         replace hx202_2 := (HB.out.cell (zL w _ hx202_2)).trans hx202_2
         replace p202 := eq_true p202
         replace q202 := eq_true q202
         go_wp2_with (first | ((with_reducible refine gate_dst (N := 4) rfl ?_); refine box_event ?hg (N := 4) ?hd (cs := #[.string (⟨#[]⟩ : ByteArray), .int .i64 0, .string (⟨#[]⟩ : ByteArray)]) (t := 106) ?hr ?_; (case hd => rfl); (case hg => rfl); (case hr => first | (go_simp; done) | (go_simp; rfl)); intro gb203 hg w41 hbox hb; have n0_ := zK (below_step (by repeat (first | (with_reducible first | exact HB.out | apply zA | apply zN | apply zD) | exact HB.out)) hb); have n1_ := zK (hbox); have n2_ := zK ((by rw [hg]; exact (below_size (by repeat (first | (with_reducible first | exact HB.out | apply zA | apply zN | apply zD) | exact HB.out))) : w.heap.size ≤ gb203)); have n3_ := zK ((by rw [hg]; exact (below_size (by repeat (first | (with_reducible first | exact HB.out | apply zA | apply zN | apply zD) | exact HB.out))) : w.heap.size ≤ gb203)); clear HB; have HB := n0_; have BK203 := n1_; have GW203 := n2_; have GE203 := n3_; clear n0_ n1_ n2_ n3_; clear hb hbox hg; have hcz42_0 : w41.cell? ⟨gb203, 0, none⟩ = some (.string (⟨#[]⟩ : ByteArray)) := (blk_cell BK203.out 0).trans rfl; have hcz42_1 : w41.cell? ⟨gb203, 1, none⟩ = some (.int .i64 0) := (blk_cell BK203.out 1).trans rfl; have hcz42_2 : w41.cell? ⟨gb203, 2, none⟩ = some (.string (⟨#[]⟩ : ByteArray)) := (blk_cell BK203.out 2).trans rfl; have hfz42_0 := blk_frozen BK203.out 0; have hfz42_1 := blk_frozen BK203.out 1; have hfz42_2 := blk_frozen BK203.out 2) | ((with_reducible refine gate_callee (f := 102) rfl ?_); refine goesL_ (some 20) rfl rfl Tryd.func102 (by kernel_rfl) rfl #[.string ((rd_T106 l0 x12_1).f0)] rfl (by (try simp only [List.map_toArray, List.map_cons, List.map_nil]); first | done | rfl | (simp only [List.length_drop, List.length_take]; rfl)) ?_; (with_reducible refine (impl_PathFault.calls ((rd_T106 l0 x12_1).f0) t204 _ A6.out).mono ?_); rintro e w43 ⟨rfl, hb⟩; refine ⟨_, rfl, ?_⟩; have n0_ := zK (blk_below (g := gb203) (o := .cells #[.string ((rd_T106 l0 x12_1).f0), .int .i64 ((rd_T106 l0 x12_1).f1), .string ((rd_T106 l0 x12_1).f2)] 106 (0, 0)) (by (with_reducible repeat (first | refine zM ?_ _ | refine zP ?_ | refine zQ ?_ _)); refine blk_put (cs := #[.string ((rd_T106 l0 x12_1).f0), .int .i64 ((rd_T106 l0 x12_1).f1), .string (⟨#[]⟩ : ByteArray)]) ?_ 2 _ rfl; (with_reducible repeat (first | refine zM ?_ _ | refine zP ?_ | refine zQ ?_ _)); refine blk_put (cs := #[.string ((rd_T106 l0 x12_1).f0), .int .i64 0, .string (⟨#[]⟩ : ByteArray)]) ?_ 1 _ rfl; (with_reducible repeat (first | refine zM ?_ _ | refine zP ?_ | refine zQ ?_ _)); refine blk_put (cs := #[.string (⟨#[]⟩ : ByteArray), .int .i64 0, .string (⟨#[]⟩ : ByteArray)]) ?_ 0 _ rfl; (with_reducible repeat (first | refine zM ?_ _ | refine zP ?_ | refine zQ ?_ _)); exact BK203.out) hb); have n1_ := zK (below_step (by repeat (first | (with_reducible first | exact HB.out | apply zA | apply zN | apply zD | refine below_set ?_ GE203.out) | exact HB.out)) hb); clear BK203; clear HB; have BK203 := n0_; have HB := n1_; clear n0_ n1_; (try clear hb); (try clear hb2); (try clear hk); (try clear hi); have hcz44_0 : w43.cell? ⟨gb203, 0, none⟩ = some (.string ((rd_T106 l0 x12_1).f0)) := (blk_cell BK203.out 0).trans rfl; have hcz44_1 : w43.cell? ⟨gb203, 1, none⟩ = some (.int .i64 ((rd_T106 l0 x12_1).f1)) := (blk_cell BK203.out 1).trans rfl; have hcz44_2 : w43.cell? ⟨gb203, 2, none⟩ = some (.string ((rd_T106 l0 x12_1).f2)) := (blk_cell BK203.out 2).trans rfl; have hfz44_0 := blk_frozen BK203.out 0; have hfz44_1 := blk_frozen BK203.out 1; have hfz44_2 := blk_frozen BK203.out 2) | ((with_reducible refine gate_callee (f := 104) rfl ?_); refine goesL_ (some 25) rfl rfl Tryd.func104 (by kernel_rfl) rfl #[.int .i64 ((rd_T106 l0 x12_1).f1)] rfl (by (try simp only [List.map_toArray, List.map_cons, List.map_nil]); first | done | rfl | (simp only [List.length_drop, List.length_take]; rfl)) ?_; (with_reducible refine (impl_isFileMode.calls ((rd_T106 l0 x12_1).f1) false _ A8.out).mono ?_); rintro e w' ⟨rfl, ⟨nd, rfl⟩⟩; refine ⟨_, rfl, ?_⟩))
         go_ret
         exact ⟨by first | rfl | (simp [errW_none, errW_some] <;> rfl) | (simp [*, errW_none, errW_some] <;> rfl), by repeat (first | (with_reducible first | exact HB.out | apply zA | apply zN | apply zD | refine below_set ?_ GE203.out) | exact HB.out)⟩
       ·
        rw [if_neg c7] at H
        have c7b0 : (t204 == 0) = false := beq_eq_false_iff_ne.mpr c7
        have c7b1 : (t204 != 0) = true := bne_iff_ne.mpr c7
        obtain rfl := Option.some.inj H
        have p202 : 0 ≤ (x12_1 : Int) := zX (by first | (with_reducible assumption) | assumption)
        have q202 : x12_1 < (l0.length : Int) := zX (by first | (with_reducible assumption) | assumption)
        obtain ⟨ad202, e202, hx202_0, hx202_1, hx202_2⟩ := at_T106 HR0.out x12_1 p202 q202
        cases e202
        replace hx202_0 := (HB.out.cell (zL w _ hx202_0)).trans hx202_0
        replace hx202_1 := (HB.out.cell (zL w _ hx202_1)).trans hx202_1
        replace hx202_2 := (HB.out.cell (zL w _ hx202_2)).trans hx202_2
        replace p202 := eq_true p202
        replace q202 := eq_true q202
        go_wp2_with (first | ((with_reducible refine gate_dst (N := 4) rfl ?_); refine box_event ?hg (N := 4) ?hd (cs := #[.string (⟨#[]⟩ : ByteArray), .int .i64 0, .string (⟨#[]⟩ : ByteArray)]) (t := 106) ?hr ?_; (case hd => rfl); (case hg => rfl); (case hr => first | (go_simp; done) | (go_simp; rfl)); intro gb203 hg w45 hbox hb; have n0_ := zK (below_step (by repeat (first | (with_reducible first | exact HB.out | apply zA | apply zN | apply zD) | exact HB.out)) hb); have n1_ := zK (hbox); have n2_ := zK ((by rw [hg]; exact (below_size (by repeat (first | (with_reducible first | exact HB.out | apply zA | apply zN | apply zD) | exact HB.out))) : w.heap.size ≤ gb203)); have n3_ := zK ((by rw [hg]; exact (below_size (by repeat (first | (with_reducible first | exact HB.out | apply zA | apply zN | apply zD) | exact HB.out))) : w.heap.size ≤ gb203)); clear HB; have HB := n0_; have BK203 := n1_; have GW203 := n2_; have GE203 := n3_; clear n0_ n1_ n2_ n3_; clear hb hbox hg; have hcz46_0 : w45.cell? ⟨gb203, 0, none⟩ = some (.string (⟨#[]⟩ : ByteArray)) := (blk_cell BK203.out 0).trans rfl; have hcz46_1 : w45.cell? ⟨gb203, 1, none⟩ = some (.int .i64 0) := (blk_cell BK203.out 1).trans rfl; have hcz46_2 : w45.cell? ⟨gb203, 2, none⟩ = some (.string (⟨#[]⟩ : ByteArray)) := (blk_cell BK203.out 2).trans rfl; have hfz46_0 := blk_frozen BK203.out 0; have hfz46_1 := blk_frozen BK203.out 1; have hfz46_2 := blk_frozen BK203.out 2) | ((with_reducible refine gate_callee (f := 102) rfl ?_); refine goesL_ (some 20) rfl rfl Tryd.func102 (by kernel_rfl) rfl #[.string ((rd_T106 l0 x12_1).f0)] rfl (by (try simp only [List.map_toArray, List.map_cons, List.map_nil]); first | done | rfl | (simp only [List.length_drop, List.length_take]; rfl)) ?_; (with_reducible refine (impl_PathFault.calls ((rd_T106 l0 x12_1).f0) t204 _ A6.out).mono ?_); rintro e w47 ⟨rfl, hb⟩; refine ⟨_, rfl, ?_⟩; have n0_ := zK (blk_below (g := gb203) (o := .cells #[.string ((rd_T106 l0 x12_1).f0), .int .i64 ((rd_T106 l0 x12_1).f1), .string ((rd_T106 l0 x12_1).f2)] 106 (0, 0)) (by (with_reducible repeat (first | refine zM ?_ _ | refine zP ?_ | refine zQ ?_ _)); refine blk_put (cs := #[.string ((rd_T106 l0 x12_1).f0), .int .i64 ((rd_T106 l0 x12_1).f1), .string (⟨#[]⟩ : ByteArray)]) ?_ 2 _ rfl; (with_reducible repeat (first | refine zM ?_ _ | refine zP ?_ | refine zQ ?_ _)); refine blk_put (cs := #[.string ((rd_T106 l0 x12_1).f0), .int .i64 0, .string (⟨#[]⟩ : ByteArray)]) ?_ 1 _ rfl; (with_reducible repeat (first | refine zM ?_ _ | refine zP ?_ | refine zQ ?_ _)); refine blk_put (cs := #[.string (⟨#[]⟩ : ByteArray), .int .i64 0, .string (⟨#[]⟩ : ByteArray)]) ?_ 0 _ rfl; (with_reducible repeat (first | refine zM ?_ _ | refine zP ?_ | refine zQ ?_ _)); exact BK203.out) hb); have n1_ := zK (below_step (by repeat (first | (with_reducible first | exact HB.out | apply zA | apply zN | apply zD | refine below_set ?_ GE203.out) | exact HB.out)) hb); clear BK203; clear HB; have BK203 := n0_; have HB := n1_; clear n0_ n1_; (try clear hb); (try clear hb2); (try clear hk); (try clear hi)))
        go_ret
        exact ⟨by first | rfl | (simp [errW_none, errW_some] <;> rfl) | (simp [*, errW_none, errW_some] <;> rfl), by repeat (first | (with_reducible first | exact HB.out | apply zA | apply zN | apply zD | refine below_set ?_ GE203.out) | exact HB.out)⟩
      ·
       rw [if_neg c5] at H
       exact absurd H (by simp)
     ·
      rw [if_neg c4] at H
      exact absurd H (by simp)
    ·
     rw [if_neg c3] at H
     have c3b0 : decide (x12_1 < (l0.length : Int)) = false := decide_eq_false c3
     clear c3
     have H' := zK H
     clear H
     go_wp2
     go_loopg [50] k1 (fun kq v50 w' => ∃ (x50_2 : Int), v50 = .int .i64 x50_2 ∧ Aside0 (impl_FilesFault.l1 kq l0 l0 (l0.length : Int) x50_2 = some r) ∧ Aside0 (kq ≤ k1) ∧ Aside0 (Below w.heap.size w w'))
     case atStart => exact ⟨(0), (by first | rfl | (simp; done) | (simp [*]; done)), H', ⟨Nat.le_refl _⟩, ⟨by repeat (first | (with_reducible first | exact HB.out | apply zA | apply zN | apply zD) | exact HB.out)⟩⟩
     case round =>
      clear H'
      try clear c1
      try clear p2
      try clear q2
      try clear hx2
      try clear c3
      try clear c3b0
      try clear c4
      try clear c5
      try clear p6
      try clear c7
      try clear c7b0
      try clear c7b1
      try clear c9
      try clear c10
      try clear c11
      try clear c12
      try clear c12b0
      try clear c14
      try clear c15
      try clear c16
      try clear c16b0
      try clear p20
      try clear q20
      try clear hx20
      try clear hcz24_0
      try clear hcz24_1
      try clear hcz24_2
      try clear hcz26_0
      try clear hcz26_1
      try clear hcz26_2
      try clear hcz30_0
      try clear hcz30_1
      try clear hcz30_2
      try clear hcz32_0
      try clear hcz32_1
      try clear hcz32_2
      try clear hcz36_0
      try clear hcz36_1
      try clear hcz36_2
      try clear hcz38_0
      try clear hcz38_1
      try clear hcz38_2
      try clear hcz42_0
      try clear hcz42_1
      try clear hcz42_2
      try clear hcz44_0
      try clear hcz44_1
      try clear hcz44_2
      try clear hcz46_0
      try clear hcz46_1
      try clear hcz46_2
      try clear hfz24_0
      try clear hfz24_1
      try clear hfz24_2
      try clear hfz26_0
      try clear hfz26_1
      try clear hfz26_2
      try clear hfz30_0
      try clear hfz30_1
      try clear hfz30_2
      try clear hfz32_0
      try clear hfz32_1
      try clear hfz32_2
      try clear hfz36_0
      try clear hfz36_1
      try clear hfz36_2
      try clear hfz38_0
      try clear hfz38_1
      try clear hfz38_2
      try clear hfz42_0
      try clear hfz42_1
      try clear hfz42_2
      try clear hfz44_0
      try clear hfz44_1
      try clear hfz44_2
      try clear hfz46_0
      try clear hfz46_1
      try clear hfz46_2
      try clear hx202_0
      try clear hx202_1
      try clear hx202_2
      try clear hx207_0
      try clear hx207_1
      try clear hx207_2
      try clear p202
      try clear p207
      try clear q202
      try clear q207
      obtain ⟨x50_2, rfl, HA, HK2, HB⟩ := hrel
      cases gk with
      | zero => exact absurd HA.out (by simp [impl_FilesFault.l1])
      | succ k2 =>
       have H := HA.out
       clear HA
       simp only [impl_FilesFault.l1] at H
       by_cases c48 : x50_2 < (l0.length : Int)
       ·
        rw [if_pos c48] at H
        have c48b0 : decide (x50_2 < (l0.length : Int)) = true := decide_eq_true c48
        clear c48
        by_cases c49 : 0 ≤ x50_2
        ·
         rw [if_pos c49] at H
         have c49b0 : decide (0 ≤ x50_2) = true := decide_eq_true c49
         clear c49
         by_cases c50 : x50_2 < (l0.length : Int)
         ·
          rw [if_pos c50] at H
          have c50b0 : decide (x50_2 < (l0.length : Int)) = true := decide_eq_true c50
          clear c50
          replace H := Option.bind_eq_some_iff.mp H
          obtain ⟨t210, A510, H⟩ := H
          replace H : (if t210 = true then (some 7) else (impl_FilesFault.l1 k2 l0 l0 (l0.length : Int) (wrap64 (x50_2 + 1)))) = some r := H
          have A51 := zK A510
          clear A510
          by_cases c52 : t210 = true
          ·
           subst c52
           have H1 : (some 7) = some r := by rw [if_pos rfl] at H; exact H
           clear H
           have H := H1
           clear H1
           obtain rfl := Option.some.inj H
           have p208 : 0 ≤ (x50_2 : Int) := zX (by first | (with_reducible assumption) | assumption)
           have q208 : x50_2 < (l0.length : Int) := zX (by first | (with_reducible assumption) | assumption)
           obtain ⟨ad208, e208, hx208_0, hx208_1, hx208_2⟩ := at_T106 HR0.out x50_2 p208 q208
           cases e208
           replace hx208_0 := (HB.out.cell (zL w _ hx208_0)).trans hx208_0
           replace hx208_1 := (HB.out.cell (zL w _ hx208_1)).trans hx208_1
           replace hx208_2 := (HB.out.cell (zL w _ hx208_2)).trans hx208_2
           replace p208 := eq_true p208
           replace q208 := eq_true q208
           go_wp2_with (first | ((with_reducible refine gate_dst (N := 6) rfl ?_); refine box_event ?hg (N := 6) ?hd (cs := #[.string (⟨#[]⟩ : ByteArray), .int .i64 0, .string (⟨#[]⟩ : ByteArray)]) (t := 106) ?hr ?_; (case hd => rfl); (case hg => rfl); (case hr => first | (go_simp; done) | (go_simp; rfl)); intro gb209 hg w53 hbox hb; have n0_ := zK (below_step (by repeat (first | (with_reducible first | exact HB.out | apply zA | apply zN | apply zD) | exact HB.out)) hb); have n1_ := zK (hbox); have n2_ := zK ((by rw [hg]; exact (below_size (by repeat (first | (with_reducible first | exact HB.out | apply zA | apply zN | apply zD) | exact HB.out))) : w.heap.size ≤ gb209)); have n3_ := zK ((by rw [hg]; exact (below_size (by repeat (first | (with_reducible first | exact HB.out | apply zA | apply zN | apply zD) | exact HB.out))) : w.heap.size ≤ gb209)); clear HB; have HB := n0_; have BK209 := n1_; have GW209 := n2_; have GE209 := n3_; clear n0_ n1_ n2_ n3_; clear hb hbox hg; have hcz54_0 : w53.cell? ⟨gb209, 0, none⟩ = some (.string (⟨#[]⟩ : ByteArray)) := (blk_cell BK209.out 0).trans rfl; have hcz54_1 : w53.cell? ⟨gb209, 1, none⟩ = some (.int .i64 0) := (blk_cell BK209.out 1).trans rfl; have hcz54_2 : w53.cell? ⟨gb209, 2, none⟩ = some (.string (⟨#[]⟩ : ByteArray)) := (blk_cell BK209.out 2).trans rfl; have hfz54_0 := blk_frozen BK209.out 0; have hfz54_1 := blk_frozen BK209.out 1; have hfz54_2 := blk_frozen BK209.out 2) | ((with_reducible refine gate_callee (f := 125) rfl ?_); refine goesL_ (some 56) rfl rfl Tryd.func125 (by kernel_rfl) rfl #[.slice (some ad208) l0.length c0, .func (.func 126) #[] #[.pointer (some ⟨gb209, 0, none⟩)]] rfl (by (try simp only [List.map_toArray, List.map_cons, List.map_nil]); first | done | rfl | (simp only [List.length_drop, List.length_take]; rfl)) ?_; (with_reducible refine (impl_File_125_FilesFault_1.calls _ _ l0 ((rd_T106 l0 x50_2).f0) ((rd_T106 l0 x50_2).f1) ((rd_T106 l0 x50_2).f2) true _ ?side1 ?side2 A51.out).mono ?_); (case side1 => exact Kd.C_below HR0.out (by repeat (first | (with_reducible first | exact HB.out | apply zA | apply zN | apply zD | refine below_set ?_ GE209.out) | exact HB.out))); (case side2 => exact HC0.out); rintro e w55 ⟨rfl, hb⟩; refine ⟨_, rfl, ?_⟩; have n0_ := zK (blk_below (g := gb209) (o := .cells #[.string ((rd_T106 l0 x50_2).f0), .int .i64 ((rd_T106 l0 x50_2).f1), .string ((rd_T106 l0 x50_2).f2)] 106 (0, 0)) (by (with_reducible repeat (first | refine zM ?_ _ | refine zP ?_ | refine zQ ?_ _)); refine blk_put (cs := #[.string ((rd_T106 l0 x50_2).f0), .int .i64 ((rd_T106 l0 x50_2).f1), .string (⟨#[]⟩ : ByteArray)]) ?_ 2 _ rfl; (with_reducible repeat (first | refine zM ?_ _ | refine zP ?_ | refine zQ ?_ _)); refine blk_put (cs := #[.string ((rd_T106 l0 x50_2).f0), .int .i64 0, .string (⟨#[]⟩ : ByteArray)]) ?_ 1 _ rfl; (with_reducible repeat (first | refine zM ?_ _ | refine zP ?_ | refine zQ ?_ _)); refine blk_put (cs := #[.string (⟨#[]⟩ : ByteArray), .int .i64 0, .string (⟨#[]⟩ : ByteArray)]) ?_ 0 _ rfl; (with_reducible repeat (first | refine zM ?_ _ | refine zP ?_ | refine zQ ?_ _)); exact BK209.out) hb); have n1_ := zK (below_step (by repeat (first | (with_reducible first | exact HB.out | apply zA | apply zN | apply zD | refine below_set ?_ GE209.out) | exact HB.out)) hb); clear BK209; clear HB; have BK209 := n0_; have HB := n1_; clear n0_ n1_; (try clear hb); (try clear hb2); (try clear hk); (try clear hi)))
           go_ret
           exact ⟨by first | rfl | (simp [errW_none, errW_some] <;> rfl) | (simp [*, errW_none, errW_some] <;> rfl), by repeat (first | (with_reducible first | exact HB.out | apply zA | apply zN | apply zD | refine below_set ?_ GE209.out) | exact HB.out)⟩
          ·
           replace c52 := Bool.eq_false_iff.mpr c52
           subst c52
           have H1 : (impl_FilesFault.l1 k2 l0 l0 (l0.length : Int) (wrap64 (x50_2 + 1))) = some r := by rw [if_neg (show ¬ (false = true) by decide)] at H; exact H
           clear H
           have H := H1
           clear H1
           have H' := zK H
           clear H
           have p208 : 0 ≤ (x50_2 : Int) := zX (by first | (with_reducible assumption) | assumption)
           have q208 : x50_2 < (l0.length : Int) := zX (by first | (with_reducible assumption) | assumption)
           obtain ⟨ad208, e208, hx208_0, hx208_1, hx208_2⟩ := at_T106 HR0.out x50_2 p208 q208
           cases e208
           replace hx208_0 := (HB.out.cell (zL w _ hx208_0)).trans hx208_0
           replace hx208_1 := (HB.out.cell (zL w _ hx208_1)).trans hx208_1
           replace hx208_2 := (HB.out.cell (zL w _ hx208_2)).trans hx208_2
           replace p208 := eq_true p208
           replace q208 := eq_true q208
           go_wp2_with (first | ((with_reducible refine gate_dst (N := 6) rfl ?_); refine box_event ?hg (N := 6) ?hd (cs := #[.string (⟨#[]⟩ : ByteArray), .int .i64 0, .string (⟨#[]⟩ : ByteArray)]) (t := 106) ?hr ?_; (case hd => rfl); (case hg => rfl); (case hr => first | (go_simp; done) | (go_simp; rfl)); intro gb209 hg w56 hbox hb; have n0_ := zK (below_step (by repeat (first | (with_reducible first | exact HB.out | apply zA | apply zN | apply zD) | exact HB.out)) hb); have n1_ := zK (hbox); have n2_ := zK ((by rw [hg]; exact (below_size (by repeat (first | (with_reducible first | exact HB.out | apply zA | apply zN | apply zD) | exact HB.out))) : w.heap.size ≤ gb209)); have n3_ := zK ((by rw [hg]; exact (below_size (by repeat (first | (with_reducible first | exact HB.out | apply zA | apply zN | apply zD) | exact HB.out))) : w.heap.size ≤ gb209)); clear HB; have HB := n0_; have BK209 := n1_; have GW209 := n2_; have GE209 := n3_; clear n0_ n1_ n2_ n3_; clear hb hbox hg; have hcz57_0 : w56.cell? ⟨gb209, 0, none⟩ = some (.string (⟨#[]⟩ : ByteArray)) := (blk_cell BK209.out 0).trans rfl; have hcz57_1 : w56.cell? ⟨gb209, 1, none⟩ = some (.int .i64 0) := (blk_cell BK209.out 1).trans rfl; have hcz57_2 : w56.cell? ⟨gb209, 2, none⟩ = some (.string (⟨#[]⟩ : ByteArray)) := (blk_cell BK209.out 2).trans rfl; have hfz57_0 := blk_frozen BK209.out 0; have hfz57_1 := blk_frozen BK209.out 1; have hfz57_2 := blk_frozen BK209.out 2) | ((with_reducible refine gate_callee (f := 125) rfl ?_); refine goesL_ (some 56) rfl rfl Tryd.func125 (by kernel_rfl) rfl #[.slice (some ad208) l0.length c0, .func (.func 126) #[] #[.pointer (some ⟨gb209, 0, none⟩)]] rfl (by (try simp only [List.map_toArray, List.map_cons, List.map_nil]); first | done | rfl | (simp only [List.length_drop, List.length_take]; rfl)) ?_; (with_reducible refine (impl_File_125_FilesFault_1.calls _ _ l0 ((rd_T106 l0 x50_2).f0) ((rd_T106 l0 x50_2).f1) ((rd_T106 l0 x50_2).f2) false _ ?side1 ?side2 A51.out).mono ?_); (case side1 => exact Kd.C_below HR0.out (by repeat (first | (with_reducible first | exact HB.out | apply zA | apply zN | apply zD | refine below_set ?_ GE209.out) | exact HB.out))); (case side2 => exact HC0.out); rintro e w58 ⟨rfl, hb⟩; refine ⟨_, rfl, ?_⟩; have n0_ := zK (blk_below (g := gb209) (o := .cells #[.string ((rd_T106 l0 x50_2).f0), .int .i64 ((rd_T106 l0 x50_2).f1), .string ((rd_T106 l0 x50_2).f2)] 106 (0, 0)) (by (with_reducible repeat (first | refine zM ?_ _ | refine zP ?_ | refine zQ ?_ _)); refine blk_put (cs := #[.string ((rd_T106 l0 x50_2).f0), .int .i64 ((rd_T106 l0 x50_2).f1), .string (⟨#[]⟩ : ByteArray)]) ?_ 2 _ rfl; (with_reducible repeat (first | refine zM ?_ _ | refine zP ?_ | refine zQ ?_ _)); refine blk_put (cs := #[.string ((rd_T106 l0 x50_2).f0), .int .i64 0, .string (⟨#[]⟩ : ByteArray)]) ?_ 1 _ rfl; (with_reducible repeat (first | refine zM ?_ _ | refine zP ?_ | refine zQ ?_ _)); refine blk_put (cs := #[.string (⟨#[]⟩ : ByteArray), .int .i64 0, .string (⟨#[]⟩ : ByteArray)]) ?_ 0 _ rfl; (with_reducible repeat (first | refine zM ?_ _ | refine zP ?_ | refine zQ ?_ _)); exact BK209.out) hb); have n1_ := zK (below_step (by repeat (first | (with_reducible first | exact HB.out | apply zA | apply zN | apply zD | refine below_set ?_ GE209.out) | exact HB.out)) hb); clear BK209; clear HB; have BK209 := n0_; have HB := n1_; clear n0_ n1_; (try clear hb); (try clear hb2); (try clear hk); (try clear hi)))
           go_roundg k2
           case measure => have := HK1.out; have := HK2.out; omega
           case rel => exact ⟨(wrap64 (x50_2 + 1)), (by first | rfl | (simp; done) | (simp [*]; done)), H', ⟨by have := HK1.out; have := HK2.out; omega⟩, ⟨by repeat (first | (with_reducible first | exact HB.out | apply zA | apply zN | apply zD | refine below_set ?_ GE209.out) | exact HB.out)⟩⟩
         ·
          rw [if_neg c50] at H
          exact absurd H (by simp)
        ·
         rw [if_neg c49] at H
         exact absurd H (by simp)
       ·
        rw [if_neg c48] at H
        have c48b0 : decide (x50_2 < (l0.length : Int)) = false := decide_eq_false c48
        clear c48
        obtain rfl := Option.some.inj H
        go_wp2
        go_ret
        exact ⟨by first | rfl | (simp [errW_none, errW_some] <;> rfl) | (simp [*, errW_none, errW_some] <;> rfl), by repeat (first | (with_reducible first | exact HB.out | apply zA | apply zN | apply zD) | exact HB.out)⟩


/-! ### impl_rightFiles: function 57 -/
def impl_rightFiles.f (k : Nat) (l0 : List (S106)) : Option (Int × (List (S106))) := (impl_FilesFault.f k l0).bind fun t212 => (if t212 = 0 then (some (0, l0)) else (some (t212, ([] : List (S106)))))
theorem impl_rightFiles.mono : ∀ a0 k, LeO (impl_rightFiles.f k a0) (impl_rightFiles.f (k + 1) a0) := by
 intro a0 k
 unfold impl_rightFiles.f
 repeat' first
   | (with_reducible exact impl_FilesFault.mono _ _)
   | (with_reducible exact LeO.refl _)
   | (with_reducible exact LeO.none _)
   | (with_reducible refine LeO.ite ?_ ?_)
   | (with_reducible refine LeO.bind ?_ (fun _ => ?_))
   | exact impl_FilesFault.mono _ _
   | exact LeO.none _
   | refine LeO.ite ?_ ?_
   | refine LeO.bind ?_ (fun _ => ?_)
set_option maxHeartbeats 8000000 in
set_option maxRecDepth 100000 in
theorem impl_rightFiles.calls (k : Nat) (P0_ : Nat → Prop) (u9000_ : Value) (l0 : List (S106)) (r1 : Int) (r2 : List (S106)) (w0 w : World) (hB : Below w0.heap.size w0 w) (ho0 : Kd.R k106 106 w w0.heap.size P0_ u9000_ l0) (h : impl_rightFiles.f k l0 = some (r1, r2)) :
  Calls Tryd.prog 57 #[u9000_] w fun e w' => ∃ v1_ : Value, e = .returned (.agg #[.int .i64 r1, v1_]) ∧ Kd.R k106 106 w' w0.heap.size (fun k_ => (P0_ k_ ∨ w.heap.size ≤ k_)) v1_ r2 ∧ Below w0.heap.size w0 w' ∧ Kept w w' (fun k_ => P0_ k_) := by
 have hu26 := Tryd.underlying26
 have HO0 := zK (show Kd.R k106 106 w w0.heap.size (fun k_ => (P0_ k_ ∨ w.heap.size ≤ k_)) u9000_ l0 from Kd.R_mono ho0 (fun k_ hk => (.inl hk)))
 have HK := zK (Kept.refl w (fun k_ => P0_ k_))
 have HW0 := zK hB.size
 have HB := zK hB
 clear hB
 have H : ((impl_FilesFault.f k l0).bind fun t212 => (if t212 = 0 then (some (0, l0)) else (some (t212, ([] : List (S106)))))) = some (r1, r2) := h
 clear h
 replace H := Option.bind_eq_some_iff.mp H
 obtain ⟨t212, A20, H⟩ := H
 replace H : (if t212 = 0 then (some (0, l0)) else (some (t212, ([] : List (S106))))) = some (r1, r2) := H
 have A2 := zK A20
 clear A20
 by_cases c3 : t212 = 0
 ·
  rw [if_pos c3] at H
  have c3b0 : (t212 == 0) = true := beq_iff_eq.mpr c3
  have c3b1 : (t212 != 0) = false := bne_eq_false_iff_eq.mpr c3
  clear c3
  simp only [Option.some.injEq, Prod.mk.injEq] at H
  obtain ⟨rfl, rfl⟩ := H
  go_enter Tryd.func57, Tryd.ntmps57
  go_wp2_with (first | ((with_reducible refine gate_dst (N := 2) rfl ?_); refine box_event ?hg (N := 2) ?hd (cs := #[.int .i64 0, .slice none 0 0]) (t := 26) ?hr ?_; (case hd => rfl); (case hg => rfl); (case hr => first | (go_simp; done) | (go_simp; rfl)); intro gb211 hg w4 hbox hb; have n0_ := zK (Kd.R_below (by (with_reducible repeat (first | apply zR | apply zV | apply zW)); exact HO0.out) hb); have n1_ := zK (Kept.below (S := (fun k_ => P0_ k_)) (by repeat (first | (with_reducible first | exact HK.out | apply Kept.alloc | apply Kept.drewN | apply Kept.drew) | exact HK.out)) hb); have n2_ := zK (below_step (by repeat (first | (with_reducible first | exact HB.out | apply zA | apply zN | apply zD) | exact HB.out)) hb); have n3_ := zK (hbox); have n4_ := zK ((by rw [hg]; exact (by first | exact HK.out.1 | exact (show Kept w _ (fun k_ => P0_ k_) from by repeat (first | (with_reducible first | exact HK.out | apply Kept.alloc | apply Kept.drewN | apply Kept.drew) | exact HK.out)).1) : w.heap.size ≤ gb211)); have n5_ := zK ((by rw [hg]; exact (below_size (by repeat (first | (with_reducible first | exact HB.out | apply zA | apply zN | apply zD) | exact HB.out))) : w0.heap.size ≤ gb211)); clear HO0; clear HK; clear HB; have HO0 := n0_; have HK := n1_; have HB := n2_; have BK211 := n3_; have GW211 := n4_; have GE211 := n5_; clear n0_ n1_ n2_ n3_ n4_ n5_; clear hb hbox hg; obtain ⟨Ao5, co5, eo5⟩ := Kd.R_slice HO0.out; subst eo5) | ((with_reducible refine gate_callee (f := 81) rfl ?_); refine goesL_ (some 5) rfl rfl Tryd.func81 (by kernel_rfl) rfl #[.slice Ao5 l0.length co5] rfl (by (try simp only [List.map_toArray, List.map_cons, List.map_nil]); first | done | rfl | (simp only [List.length_drop, List.length_take]; rfl)) ?_; (with_reducible refine (impl_FilesFault.calls k _ _ l0 t212 _ ?side1 ?side2 A2.out).mono ?_); (case side1 => repeat (first | exact (Kd.R_reads' HO0.out).2.2 | (with_reducible refine Kd.C_alloc ?_ _) | (with_reducible refine Kd.C_drewN ?_ _) | (with_reducible refine Kd.C_drew ?_))); (case side2 => exact (Kd.R_reads' HO0.out).2.1); rintro e w6 ⟨rfl, hb⟩; refine ⟨_, rfl, ?_⟩; have n0_ := zK (Kd.R_below (by (with_reducible repeat (first | apply zR | apply zV | apply zW)); exact HO0.out) hb); have n1_ := zK (blk_below (g := gb211) (o := .cells #[.int .i64 0, .slice none 0 0] 26 (0, 0)) (by (with_reducible repeat (first | refine zM ?_ _ | refine zP ?_ | refine zQ ?_ _)); exact BK211.out) hb); have n2_ := zK (Kept.below (S := (fun k_ => P0_ k_)) (by repeat (first | (with_reducible first | exact HK.out | apply Kept.alloc | apply Kept.drewN | apply Kept.drew | refine Kept.setCell ?_ (.inr GW211.out) _) | exact HK.out)) hb); have n3_ := zK (below_step (by repeat (first | (with_reducible first | exact HB.out | apply zA | apply zN | apply zD | refine below_set ?_ GE211.out) | exact HB.out)) hb); clear HO0; clear BK211; clear HK; clear HB; have HO0 := n0_; have BK211 := n1_; have HK := n2_; have HB := n3_; clear n0_ n1_ n2_ n3_; (try clear hb); (try clear hb2); (try clear hk); (try clear hi); have hcz7_0 : w6.cell? ⟨gb211, 0, none⟩ = some (.int .i64 0) := (blk_cell BK211.out 0).trans rfl; have hcz7_1 : w6.cell? ⟨gb211, 1, none⟩ = some (.slice none 0 0) := (blk_cell BK211.out 1).trans rfl; have hfz7_0 := blk_frozen BK211.out 0; have hfz7_1 := blk_frozen BK211.out 1))
  refine bodyPost_ret (results_cell_row rfl _ _ gb211 26 #[.int .i64 0, .slice Ao5 l0.length co5] (0, 0) _ rfl (by (with_reducible repeat (first | refine zM ?_ _ | refine zP ?_ | refine zQ ?_ _)); refine blk_put (cs := #[.int .i64 0, .slice none 0 0]) ?_ 1 _ rfl; (with_reducible repeat (first | refine zM ?_ _ | refine zP ?_ | refine zQ ?_ _)); refine blk_put (cs := #[.int .i64 0, .slice none 0 0]) ?_ 0 _ rfl; (with_reducible repeat (first | refine zM ?_ _ | refine zP ?_ | refine zQ ?_ _)); exact BK211.out) Tryd.underlying26 rfl (by kernel_rfl)) rfl ?_
  exact ⟨_, by first | rfl | (simp [errW_none, errW_some] <;> rfl) | (simp [*, errW_none, errW_some] <;> rfl), by (with_reducible repeat (first | apply zR | apply zV | apply zW)); exact Kd.R_mono (Kd.R_far (p := ⟨gb211, 1, none⟩) (Kd.R_far (p := ⟨gb211, 0, none⟩) (Kd.R_types HO0.out BK211.out (by decide)) (fun _ hk => hk.2) (.int .i64 0)) (fun _ hk => hk.2) (.slice Ao5 l0.length co5)) (fun _ hk => hk.1), by repeat (first | (with_reducible first | exact HB.out | apply zA | apply zN | apply zD | refine below_set ?_ GE211.out) | exact HB.out), by repeat (first | (with_reducible first | exact HK.out | apply Kept.alloc | apply Kept.drewN | apply Kept.drew | refine Kept.setCell ?_ (.inr GW211.out) _) | exact HK.out)⟩
 ·
  rw [if_neg c3] at H
  have c3b0 : (t212 == 0) = false := beq_eq_false_iff_ne.mpr c3
  have c3b1 : (t212 != 0) = true := bne_iff_ne.mpr c3
  simp only [Option.some.injEq, Prod.mk.injEq] at H
  obtain ⟨rfl, rfl⟩ := H
  go_enter Tryd.func57, Tryd.ntmps57
  go_wp2_with (first | ((with_reducible refine gate_dst (N := 2) rfl ?_); refine box_event ?hg (N := 2) ?hd (cs := #[.int .i64 0, .slice none 0 0]) (t := 26) ?hr ?_; (case hd => rfl); (case hg => rfl); (case hr => first | (go_simp; done) | (go_simp; rfl)); intro gb211 hg w8 hbox hb; have n0_ := zK (Kd.R_below (by (with_reducible repeat (first | apply zR | apply zV | apply zW)); exact HO0.out) hb); have n1_ := zK (Kept.below (S := (fun k_ => P0_ k_)) (by repeat (first | (with_reducible first | exact HK.out | apply Kept.alloc | apply Kept.drewN | apply Kept.drew) | exact HK.out)) hb); have n2_ := zK (below_step (by repeat (first | (with_reducible first | exact HB.out | apply zA | apply zN | apply zD) | exact HB.out)) hb); have n3_ := zK (hbox); have n4_ := zK ((by rw [hg]; exact (by first | exact HK.out.1 | exact (show Kept w _ (fun k_ => P0_ k_) from by repeat (first | (with_reducible first | exact HK.out | apply Kept.alloc | apply Kept.drewN | apply Kept.drew) | exact HK.out)).1) : w.heap.size ≤ gb211)); have n5_ := zK ((by rw [hg]; exact (below_size (by repeat (first | (with_reducible first | exact HB.out | apply zA | apply zN | apply zD) | exact HB.out))) : w0.heap.size ≤ gb211)); clear HO0; clear HK; clear HB; have HO0 := n0_; have HK := n1_; have HB := n2_; have BK211 := n3_; have GW211 := n4_; have GE211 := n5_; clear n0_ n1_ n2_ n3_ n4_ n5_; clear hb hbox hg; obtain ⟨Ao9, co9, eo9⟩ := Kd.R_slice HO0.out; subst eo9) | ((with_reducible refine gate_callee (f := 81) rfl ?_); refine goesL_ (some 5) rfl rfl Tryd.func81 (by kernel_rfl) rfl #[.slice Ao9 l0.length co9] rfl (by (try simp only [List.map_toArray, List.map_cons, List.map_nil]); first | done | rfl | (simp only [List.length_drop, List.length_take]; rfl)) ?_; (with_reducible refine (impl_FilesFault.calls k _ _ l0 t212 _ ?side1 ?side2 A2.out).mono ?_); (case side1 => repeat (first | exact (Kd.R_reads' HO0.out).2.2 | (with_reducible refine Kd.C_alloc ?_ _) | (with_reducible refine Kd.C_drewN ?_ _) | (with_reducible refine Kd.C_drew ?_))); (case side2 => exact (Kd.R_reads' HO0.out).2.1); rintro e w10 ⟨rfl, hb⟩; refine ⟨_, rfl, ?_⟩; have n0_ := zK (Kd.R_below (by (with_reducible repeat (first | apply zR | apply zV | apply zW)); exact HO0.out) hb); have n1_ := zK (blk_below (g := gb211) (o := .cells #[.int .i64 0, .slice none 0 0] 26 (0, 0)) (by (with_reducible repeat (first | refine zM ?_ _ | refine zP ?_ | refine zQ ?_ _)); exact BK211.out) hb); have n2_ := zK (Kept.below (S := (fun k_ => P0_ k_)) (by repeat (first | (with_reducible first | exact HK.out | apply Kept.alloc | apply Kept.drewN | apply Kept.drew | refine Kept.setCell ?_ (.inr GW211.out) _) | exact HK.out)) hb); have n3_ := zK (below_step (by repeat (first | (with_reducible first | exact HB.out | apply zA | apply zN | apply zD | refine below_set ?_ GE211.out) | exact HB.out)) hb); clear HO0; clear BK211; clear HK; clear HB; have HO0 := n0_; have BK211 := n1_; have HK := n2_; have HB := n3_; clear n0_ n1_ n2_ n3_; (try clear hb); (try clear hb2); (try clear hk); (try clear hi); have hcz11_0 : w10.cell? ⟨gb211, 0, none⟩ = some (.int .i64 0) := (blk_cell BK211.out 0).trans rfl; have hcz11_1 : w10.cell? ⟨gb211, 1, none⟩ = some (.slice none 0 0) := (blk_cell BK211.out 1).trans rfl; have hfz11_0 := blk_frozen BK211.out 0; have hfz11_1 := blk_frozen BK211.out 1))
  refine bodyPost_ret (results_cell_row rfl _ _ gb211 26 #[.int .i64 t212, .slice none 0 0] (0, 0) _ rfl (by (with_reducible repeat (first | refine zM ?_ _ | refine zP ?_ | refine zQ ?_ _)); refine blk_put (cs := #[.int .i64 t212, .slice none 0 0]) ?_ 1 _ rfl; (with_reducible repeat (first | refine zM ?_ _ | refine zP ?_ | refine zQ ?_ _)); refine blk_put (cs := #[.int .i64 0, .slice none 0 0]) ?_ 0 _ rfl; (with_reducible repeat (first | refine zM ?_ _ | refine zP ?_ | refine zQ ?_ _)); exact BK211.out) Tryd.underlying26 rfl (by kernel_rfl)) rfl ?_
  exact ⟨_, by first | rfl | (simp [errW_none, errW_some] <;> rfl) | (simp [*, errW_none, errW_some] <;> rfl), by first | exact Kd.R_nil _ _ _ _ _ | exact Kd.N_nil _ _ _ _ _ | exact Kd.V_nil _ _ _ _ _ | exact Kd.Q_nil _ _ _ _ _ | exact Kd.S_nil _ _ _ _ _, by repeat (first | (with_reducible first | exact HB.out | apply zA | apply zN | apply zD | refine below_set ?_ GE211.out) | exact HB.out), by repeat (first | (with_reducible first | exact HK.out | apply Kept.alloc | apply Kept.drewN | apply Kept.drew | refine Kept.setCell ?_ (.inr GW211.out) _) | exact HK.out)⟩

end Go.Proofs.YtjibadlbiapcmaaDoor.PX

namespace Go.Proofs.YtjibadlbiapcmaaDoorX
open Go Go.RowKit Go.Proofs.YtjibadlbiapcmaaDoorW.PrintWords Go.Proofs.YtjibadlbiapcmaaDoor.PX
set_option linter.unusedVariables false

def fileAt (l : List IFile) (i : Nat) : IFile := l.getD i z106
theorem rd_file (l : List IFile) (i : Nat) : rd_T106 l (i : Int) = fileAt l i := by
  unfold fileAt
  show l.getD ((i : Int)).toNat _ = _
  rw [Int.toNat_natCast]
def fSmall (l : List IFile) : Prop := ∀ x ∈ l, x.f0.size ≤ 1048576
theorem fSmall_at {l : List IFile} (h : fSmall l) {i : Nat} (hi : i < l.length) : (fileAt l i).f0.size ≤ 1048576 := h _ (getD_mem _ hi)
theorem wrap_up (n : Nat) (h : n < 9223372036854775807) : wrap64 ((n : Int) + 1) = ((n + 1 : Nat) : Int) := (wrap_in (by omega) (by omega)).trans (by omega)

theorem spec_inDir (a b : ByteArray) (ha : a.size ≤ 140737488351232) (hb : b.size ≤ 140737488351232) : spec_InDir.f a b = some (X.inDirV a b) := by
  unfold spec_InDir.f X.inDirV
  have w : wrap64 ((b.size : Int) + 1) = ((b.size + 1 : Nat) : Int) := wrap_up _ (by omega)
  rw [w, Int.toNat_natCast]
  by_cases h : b.size + 1 < a.size
  · rw [if_pos (by omega), if_pos (by omega), if_pos (by omega), if_pos (by omega), if_pos h]
  · rw [if_neg (by omega), if_neg h]

/-- A file lies below another. -/
def below1 (l : List IFile) (f : IFile) : Bool := l.any fun o => X.inDirV f.f0 o.f0
def takenV (l : List IFile) : Bool := l.any (below1 l)
theorem getD_drop {α : Type} (l : List α) (i : Nat) (d : α) (h : i < l.length) : l.drop i = l.getD i d :: l.drop (i + 1) := by
  rw [List.drop_eq_getElem_cons h, List.getD_eq_getElem?_getD, List.getElem?_eq_getElem h, Option.getD_some]

theorem spec_l2 (l : List IFile) (hl : l.length ≤ 1048576) (hs : fSmall l) (i : Nat) (hi : i < l.length) (r : Int) (K : Nat) (hr : ∀ k, K ≤ k → spec_FilesFault.l1 k l ((i + 1 : Nat) : Int) = some r) :
    ∀ (d j : Nat), j + d = l.length → ∀ k, K + d < k → spec_FilesFault.l2 k l (i : Int) (j : Int) = some (if (l.drop j).any (fun o => X.inDirV (fileAt l i).f0 o.f0) = true then 7 else r)
  | 0, j, hj, k, hk => by
    obtain ⟨k, rfl⟩ : ∃ m, k = m + 1 := ⟨k - 1, by omega⟩
    rw [spec_FilesFault.l2, if_neg (by omega), wrap_up i (by omega), hr k (by omega), List.drop_eq_nil_of_le (by omega)]
    rfl
  | d + 1, j, hj, k, hk => by
    obtain ⟨k, rfl⟩ : ∃ m, k = m + 1 := ⟨k - 1, by omega⟩
    have s1 := fSmall_at hs hi
    have s2 := fSmall_at hs (show j < l.length by omega)
    rw [spec_FilesFault.l2, if_pos (by omega), if_pos (by omega), if_pos (by omega), if_pos (by omega), rd_file, rd_file, spec_inDir _ _ (by omega) (by omega), Option.bind_some, wrap_up j (by omega), spec_l2 l hl hs i hi r K hr d (j + 1) (by omega) k (by omega)]
    rw [getD_drop l j z106 (by omega), List.any_cons]
    show _ = some (if (X.inDirV (fileAt l i).f0 (fileAt l j).f0 || _) = true then 7 else r)
    cases X.inDirV (fileAt l i).f0 (fileAt l j).f0 with
    | true => rfl
    | false => rw [if_neg (by decide), Bool.false_or]
theorem spec_l1 (l : List IFile) (hl : l.length ≤ 60) (hs : fSmall l) : ∀ (d i : Nat), i + d = l.length → ∀ k, d * 62 < k → spec_FilesFault.l1 k l (i : Int) = some (if (l.drop i).any (below1 l) = true then 7 else 0)
  | 0, i, hi, k, hk => by
    obtain ⟨k, rfl⟩ : ∃ m, k = m + 1 := ⟨k - 1, by omega⟩
    rw [spec_FilesFault.l1, if_neg (by omega), List.drop_eq_nil_of_le (by omega)]
    rfl
  | d + 1, i, hi, k, hk => by
    obtain ⟨k, rfl⟩ : ∃ m, k = m + 1 := ⟨k - 1, by omega⟩
    have ih := spec_l1 l hl hs d (i + 1) (by omega)
    have h2 := spec_l2 l (by omega) hs i (by omega) _ (d * 62 + 1) (fun k hk => ih k (by omega)) l.length 0 (by omega) k (by omega)
    rw [spec_FilesFault.l1, if_pos (by omega)]
    refine h2.trans ?_
    rw [getD_drop l i z106 (by omega), List.any_cons, List.drop_zero]
    show some (if below1 l (fileAt l i) = true then 7 else _) = some (if (below1 l (fileAt l i) || _) = true then 7 else 0)
    cases below1 l (fileAt l i) with
    | true => rfl
    | false => rw [if_neg (by decide), Bool.false_or]
theorem impl_lit (l : List IFile) (hl : l.length ≤ 1048576) (hs : fSmall l) (i : Nat) (hi : i < l.length) : impl_File_125_FilesFault_1.f l (fileAt l i).f0 (fileAt l i).f1 (fileAt l i).f2 = some (below1 l (fileAt l i)) := by
  have s1 := fSmall_at hs hi
  unfold impl_File_125_FilesFault_1.f
  rw [if_pos (by
    unfold impl_File_125_FilesFault_1.ok
    simp only [Bool.and_eq_true, decide_eq_true_eq, List.all_eq_true]
    exact ⟨by omega, fun x hx => by have := hs x hx; omega⟩), if_pos (by omega)]
  rfl
theorem impl_l1 (l : List IFile) (hl : l.length ≤ 1048576) (hs : fSmall l) : ∀ (d i : Nat), i + d = l.length → ∀ k, d < k → impl_FilesFault.l1 k l l (l.length : Int) (i : Int) = some (if (l.drop i).any (below1 l) = true then 7 else 0)
  | 0, i, hi, k, hk => by
    obtain ⟨k, rfl⟩ : ∃ m, k = m + 1 := ⟨k - 1, by omega⟩
    rw [impl_FilesFault.l1, if_neg (by omega), List.drop_eq_nil_of_le (by omega)]
    rfl
  | d + 1, i, hi, k, hk => by
    obtain ⟨k, rfl⟩ : ∃ m, k = m + 1 := ⟨k - 1, by omega⟩
    rw [impl_FilesFault.l1, if_pos (by omega), if_pos (by omega), if_pos (by omega), rd_file, impl_lit l hl hs i (by omega), Option.bind_some, wrap_up i (by omega), impl_l1 l hl hs d (i + 1) (by omega) k (by omega)]
    rw [getD_drop l i z106 (by omega), List.any_cons]
    show _ = some (if (below1 l (fileAt l i) || _) = true then 7 else 0)
    cases below1 l (fileAt l i) with
    | true => rfl
    | false => rw [if_neg (by decide), Bool.false_or]

def fileStep (l : List IFile) (i : Nat) (_ : Unit) : Sum Int Unit :=
  if pathV (fileAt l i).f0 = 0 then
    if modeOk (fileAt l i).f1 = true then
      if isIdOfM 1 (fileAt l i).f2.data.toList = true then
        if 0 < i ∧ Op.bytesLess (fileAt l (i - 1)).f0.toList (fileAt l i).f0.toList = false then .inl 1 else .inr ()
      else .inl 1
    else .inl 3
  else .inl 1
/-- What FilesFault tells. -/
def filesV (l : List IFile) : Int := if l.length > 60 then 2 else run (fileStep l) (fun _ => if takenV l = true then 7 else 0) l.length 0 ()

theorem spec_files (l : List IFile) (hl : l.length ≤ 1048576) (hs : fSmall l) (k : Nat) (hk : 1052800 + l.length < k) : spec_FilesFault.f (2 * k) l = some (filesV l) := by
  unfold spec_FilesFault.f filesV
  by_cases h60 : l.length > 60
  · rw [if_pos (by omega), if_pos h60]
  rw [if_neg (by omega), if_neg h60]
  refine loop0 (F := fun k i (_ : Unit) => spec_FilesFault.l0 (2 * k) l (i : Int)) l.length 1052800 (fun _ _ => True) (fun _ _ _ _ _ _ => trivial) (fun k i _ hK hi _ => ?_) (fun k _ hK _ => ?_) () trivial k (by omega)
  · show spec_FilesFault.l0 (2 * k + 1 + 1) l (i : Int) = _
    have hp := fSmall_at hs hi
    rw [spec_FilesFault.l0, if_pos (by omega), if_pos (by omega), rd_file]
    change ((spec_PathFault.f (2 * k + 1) (fileAt l i).f0).bind _) = _
    rw [spec_path _ (by omega) (2 * k + 1) (by omega), Option.bind_some]
    unfold fileStep
    by_cases hv : pathV (fileAt l i).f0 = 0
    · rw [if_pos hv, if_pos hv]
      have key : ∀ b : Bool, spec_FilesFault.j1 (2 * k + 1) l (i : Int) b (fileAt l i).f0 (fileAt l i).f1 (fileAt l i).f2 = match (if b = false then (if isIdOfM 1 (fileAt l i).f2.data.toList = true then (if 0 < i ∧ Op.bytesLess (fileAt l (i - 1)).f0.toList (fileAt l i).f0.toList = false then (.inl 1 : Sum Int Unit) else .inr ()) else .inl 1) else .inl 3) with | .inl r => some r | .inr s' => spec_FilesFault.l0 (2 * k) l ((i + 1 : Nat) : Int) := by
        intro b
        rw [spec_FilesFault.j1]
        cases b with
        | true => rfl
        | false =>
          rw [if_neg (by decide), if_pos rfl, show spec_l6Is.f (2 * k) (fileAt l i).f2 1 = some (isIdOfM 1 (fileAt l i).f2.data.toList) from spec_l6Is_tells 1 (by decide) _ _ (by omega), Option.bind_some]
          cases isIdOfM 1 (fileAt l i).f2.data.toList with
          | false => rfl
          | true =>
            rw [if_pos rfl, if_pos rfl, wrap_up i (by omega)]
            by_cases hi0 : 0 < i
            · have hw : wrap64 ((i : Int) - 1) = ((i - 1 : Nat) : Int) := by rw [wrap_in (by omega) (by omega)]; omega
              rw [if_pos (by omega), hw, if_pos (by omega), if_pos (by omega), rd_file]
              cases Op.bytesLess (fileAt l (i - 1)).f0.toList (fileAt l i).f0.toList with
              | true => rw [if_pos rfl, if_neg (by simp)]
              | false => rw [if_neg (by simp), if_pos ⟨hi0, rfl⟩]
            · rw [if_neg (by omega), if_neg (fun z => hi0 z.1)]
      have hmo : (if (fileAt l i).f1 = 1 then spec_FilesFault.j1 (2 * k + 1) l (i : Int) false (fileAt l i).f0 (fileAt l i).f1 (fileAt l i).f2 else spec_FilesFault.j1 (2 * k + 1) l (i : Int) ((fileAt l i).f1 != 2) (fileAt l i).f0 (fileAt l i).f1 (fileAt l i).f2) = spec_FilesFault.j1 (2 * k + 1) l (i : Int) (!modeOk (fileAt l i).f1) (fileAt l i).f0 (fileAt l i).f1 (fileAt l i).f2 := by
        unfold modeOk
        by_cases h1 : (fileAt l i).f1 = 1
        · rw [if_pos h1, decide_eq_true h1, Bool.true_or]; rfl
        · rw [if_neg h1, decide_eq_false h1, Bool.false_or]
          congr 1
      change (if (fileAt l i).f1 = 1 then _ else _) = _
      refine hmo.trans ?_
      refine (key _).trans ?_
      cases modeOk (fileAt l i).f1 with
      | false => rfl
      | true =>
        rw [Bool.not_true, if_pos rfl, if_pos rfl]
        generalize (if isIdOfM 1 (fileAt l i).f2.data.toList = true then _ else _ : Sum Int Unit) = g
        cases g <;> rfl
    · rw [if_neg hv, if_neg hv]
      rcases pathV_two (fileAt l i).f0 with h | h
      · exact absurd h hv
      · rw [h]
  · show spec_FilesFault.l0 (2 * k + 1 + 1) l (l.length : Int) = _
    rw [spec_FilesFault.l0, if_neg (by omega)]
    have := spec_l1 l (by omega) hs l.length 0 (by omega) (2 * k + 1) (by omega)
    rw [List.drop_zero] at this
    exact this
theorem impl_files (l : List IFile) (hl : l.length ≤ 1048576) (hs : fSmall l) (k : Nat) (hk : 1048700 + l.length < k) : impl_FilesFault.f k l = some (filesV l) := by
  unfold impl_FilesFault.f filesV
  by_cases h60 : l.length > 60
  · rw [if_pos (by omega), if_pos h60]
  rw [if_neg (by omega), if_neg h60]
  refine loop0 (F := fun k i (_ : Unit) => impl_FilesFault.l0 k l l (l.length : Int) (i : Int)) l.length 1048700 (fun _ _ => True) (fun _ _ _ _ _ _ => trivial) (fun k i _ hK hi _ => ?_) (fun k _ hK _ => ?_) () trivial k (by omega)
  · show impl_FilesFault.l0 (k + 1) l l (l.length : Int) (i : Int) = _
    have hp := fSmall_at hs hi
    rw [impl_FilesFault.l0, if_pos (by omega), if_pos (by omega), if_pos (by omega), rd_file]
    change ((impl_PathFault.f (fileAt l i).f0).bind _) = _
    rw [impl_path _ (by omega), Option.bind_some]
    unfold fileStep
    by_cases hv : pathV (fileAt l i).f0 = 0
    · rw [if_pos hv, if_pos hv]
      change ((impl_isFileMode.f (fileAt l i).f1).bind _) = _
      rw [impl_mode, Option.bind_some]
      cases modeOk (fileAt l i).f1 with
      | false => rfl
      | true =>
        rw [if_pos rfl, if_pos rfl, show impl_isIdOf.f 1 (fileAt l i).f2 = some (isIdOfM 1 (fileAt l i).f2.data.toList) from impl_isIdOf_tells 1 (by decide) _, Option.bind_some]
        cases isIdOfM 1 (fileAt l i).f2.data.toList with
        | false => rfl
        | true =>
          rw [if_pos rfl, if_pos rfl, wrap_up i (by omega)]
          by_cases hi0 : 0 < i
          · have hw : wrap64 ((i : Int) - 1) = ((i - 1 : Nat) : Int) := by rw [wrap_in (by omega) (by omega)]; omega
            rw [if_pos (by omega), hw, if_pos (by omega), if_pos (by omega), rd_file]
            cases Op.bytesLess (fileAt l (i - 1)).f0.toList (fileAt l i).f0.toList with
            | true => rw [if_pos rfl, if_neg (by simp)]
            | false => rw [if_neg (by simp), if_pos ⟨hi0, rfl⟩]
          · rw [if_neg (by omega), if_neg (fun z => hi0 z.1)]
    · rw [if_neg hv, if_neg hv]
  · show impl_FilesFault.l0 (k + 1) l l (l.length : Int) (l.length : Int) = _
    rw [impl_FilesFault.l0, if_neg (by omega)]
    have := impl_l1 l hl hs l.length 0 (by omega) k (by omega)
    rw [List.drop_zero] at this
    exact this

abbrev LFile := S102
def fileOk (x : LFile) : Prop := x.f0.size ≤ 140737488351232 ∧ x.f2.size ≤ 140737488351232
def fileConv (x : LFile) : IFile := ⟨x.f0, x.f1, x.f2⟩
def fileSmall (x : LFile) : Prop := x.f0.size ≤ 1048576 ∧ x.f2.size ≤ 1048576
theorem szFile_tells (x : LFile) (hx : fileOk x) (left : Int) (h0 : 0 ≤ left) (h1 : left ≤ 1048576) : ∃ r, laws_szFile.f x.f0 x.f1 x.f2 left = some r ∧ r ≤ left ∧ (0 ≤ r → fileSmall x) := by
  obtain ⟨a, b⟩ := hx
  unfold laws_szFile.f fileSmall
  rw [wrap_in (i := left - _) (by omega) (by omega)]
  by_cases c : left - (x.f0.size : Int) < 0
  · rw [if_pos c]
    exact ⟨_, rfl, by omega, fun z => absurd z (by omega)⟩
  · rw [if_neg c, wrap_in (by omega) (by omega)]
    split
    · exact ⟨_, rfl, by omega, fun z => absurd z (by omega)⟩
    · exact ⟨_, rfl, by omega, fun z => by omega⟩
theorem szFileS_tells (l : List LFile) (hl : l.length ≤ 140737488351232) (ho : ∀ x ∈ l, fileOk x) (left : Int) (h0 : 0 ≤ left) (h1 : left ≤ 1048576) (k : Nat) (hk : l.length < k) :
    ∃ r, laws_szFileS.f k l left = some r ∧ (0 ≤ r → l.length ≤ 1048576 ∧ ∀ x ∈ l, fileSmall x) := by
  unfold laws_szFileS.f
  rw [wrap_in (by omega) (by omega)]
  split
  · exact ⟨_, rfl, fun z => absurd z (by omega)⟩
  · obtain ⟨r, hr, _, hq⟩ := sz_all (F := laws_szFileS.l0) (Z := fun x left => laws_szFile.f x.f0 x.f1 x.f2 left) fileOk fileSmall z102 szFile_tells (fun k xs left i => by rw [laws_szFileS.l0]; rfl) l hl ho (left - l.length) (by omega) (by omega) k hk
    exact ⟨r, hr, fun z => ⟨by omega, hq z⟩⟩
theorem toFileS_tells (l : List LFile) (hl : l.length ≤ 1048576) (k : Nat) (hk : l.length < k) : laws_toFileS.f k l = some (l.map fileConv) := by
  unfold laws_toFileS.f
  rw [if_pos (by omega), Int.toNat_natCast, if_pos (by omega)]
  exact to_all (F := laws_toFileS.l0) fileConv z102 (fun k xs ys i => by rw [laws_toFileS.l0]; rfl) l (by omega) _ k hk
theorem fconv_small {l : List LFile} (h : ∀ x ∈ l, fileSmall x) : fSmall (l.map fileConv) := by
  intro x hx
  obtain ⟨y, hy, rfl⟩ := List.mem_map.1 hx
  exact (h y hy).1
end Go.Proofs.YtjibadlbiapcmaaDoorX
