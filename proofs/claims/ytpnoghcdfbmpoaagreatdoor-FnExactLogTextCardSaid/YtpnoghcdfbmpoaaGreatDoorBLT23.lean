/- Texts of this claim set one behind another by wip/bundle.py: XStS, PXf28. -/
import Derived.Test.YtpnoghcdfbmpoaaGreatDoorBLT16
import Derived.Test.YtpnoghcdfbmpoaaGreatDoorBLT10
import Derived.Test.YtpnoghcdfbmpoaaGreatDoorBLT5
import Derived.Lib.Hide
import Derived.IntWalk
import Derived.Deep.RegionHeld3
import Derived.Deep.QuietTactic
import Derived.BigQuiet
import Derived.Test.YtpnoghcdfbmpoaaGreatDoorBLT15
namespace Go.Proofs.YtpnoghcdfbmpoaaGreatDoor.PX.X
open Go Go.RowKit Go.Lib Go.Proofs.YtpnoghcdfbmpoaaGreatDoorW.PrintWords Go.Proofs.YtpnoghcdfbmpoaaGreatDoorW.PrintLast Go.Proofs.YtpnoghcdfbmpoaaGreatDoorW.PrintMore
set_option linter.unusedVariables false
set_option linter.unusedSimpArgs false
section keeps
variable {a b c : Addr} {va vb vc : Value} {W w' w'' : World}
theorem keepO (h : w'.cell? a = some va ∧ w'.cell? b = some vb ∧ w'.cell? c = some vc ∧ Below W.heap.size W w') (hb : Below w'.heap.size w' w'') : w''.cell? a = some va ∧ w''.cell? b = some vb ∧ w''.cell? c = some vc ∧ Below W.heap.size W w'' :=
 ⟨(hb.cell (World.block_lt_of_cell? w' _ h.1)).trans h.1, (hb.cell (World.block_lt_of_cell? w' _ h.2.1)).trans h.2.1, (hb.cell (World.block_lt_of_cell? w' _ h.2.2.1)).trans h.2.2.1, h.2.2.2.trans (hb.mono h.2.2.2.size)⟩
theorem keepO_alloc (o : Obj) (h : w'.cell? a = some va ∧ w'.cell? b = some vb ∧ w'.cell? c = some vc ∧ Below W.heap.size W w') : (w'.alloc o).cell? a = some va ∧ (w'.alloc o).cell? b = some vb ∧ (w'.alloc o).cell? c = some vc ∧ Below W.heap.size W (w'.alloc o) :=
 keepO h ((Below.refl _ _).alloc (Nat.le_refl _) _)
theorem keepO_drew (h : w'.cell? a = some va ∧ w'.cell? b = some vb ∧ w'.cell? c = some vc ∧ Below W.heap.size W w') : w'.drew.cell? a = some va ∧ w'.drew.cell? b = some vb ∧ w'.drew.cell? c = some vc ∧ Below W.heap.size W w'.drew :=
 keepO h (below_drew1 (Below.refl _ _))
theorem keepO_drewN (n : Nat) (h : w'.cell? a = some va ∧ w'.cell? b = some vb ∧ w'.cell? c = some vc ∧ Below W.heap.size W w') : (w'.drewN n).cell? a = some va ∧ (w'.drewN n).cell? b = some vb ∧ (w'.drewN n).cell? c = some vc ∧ Below W.heap.size W (w'.drewN n) :=
 keepO h (pw_below_drewN (Below.refl _ _) n)
theorem keepO_set {g j : Nat} {v : Value} (hz : W.cell? a = some va ∧ W.cell? b = some vb ∧ W.cell? c = some vc ∧ Below W.heap.size W W) (h : w'.cell? a = some va ∧ w'.cell? b = some vb ∧ w'.cell? c = some vc ∧ Below W.heap.size W w') (hg : W.heap.size ≤ g) : (w'.setCell ⟨g, j, none⟩ v).cell? a = some va ∧ (w'.setCell ⟨g, j, none⟩ v).cell? b = some vb ∧ (w'.setCell ⟨g, j, none⟩ v).cell? c = some vc ∧ Below W.heap.size W (w'.setCell ⟨g, j, none⟩ v) :=
 ⟨(cell_far (p := ⟨g, j, none⟩) (Nat.ne_of_lt (Nat.lt_of_lt_of_le (World.block_lt_of_cell? W _ hz.1) hg)) v).trans h.1, (cell_far (p := ⟨g, j, none⟩) (Nat.ne_of_lt (Nat.lt_of_lt_of_le (World.block_lt_of_cell? W _ hz.2.1) hg)) v).trans h.2.1, (cell_far (p := ⟨g, j, none⟩) (Nat.ne_of_lt (Nat.lt_of_lt_of_le (World.block_lt_of_cell? W _ hz.2.2.1) hg)) v).trans h.2.2.1, below_set h.2.2.2 hg⟩
end keeps
end Go.Proofs.YtpnoghcdfbmpoaaGreatDoor.PX.X

namespace Go.Proofs.YtpnoghcdfbmpoaaGreatDoor.PX
open Go.RowKit Go.Proofs.YtpnoghcdfbmpoaaGreatDoorW.PrintWords Go.Proofs.YtpnoghcdfbmpoaaGreatDoorW.PrintLast Go.Proofs.YtpnoghcdfbmpoaaGreatDoorW.PrintMore
attribute [local go_sem] max2_int min2_int max_two min_two max_three min_three max_four min_four   -- for this text's walks alone
set_option linter.unusedVariables false
set_option linter.unusedSimpArgs false
def spec_StoreFault.l0 : Nat → List (S50) → Int → Option (Int)
 | 0, _, _ => none
 | k + 1, x0, x3 => if x3 < (x0.length : Int) then (if 0 ≤ x3 then ((spec_IdOf.f k ((rd_T50 x0 x3).f1) ((rd_T50 x0 x3).f2)).bind fun bt125 => (if bt125.1 = 0 then (if bt125.2.toList = ((rd_T50 x0 x3).f0).toList then (if x3 > 0 then (if 0 ≤ (wrap64 (x3 - 1)) then (if (wrap64 (x3 - 1)) < (x0.length : Int) then (if ((Op.bytesLess (((rd_T50 x0 (wrap64 (x3 - 1))).f0).toList) (((rd_T50 x0 x3).f0).toList)) = true) then (spec_StoreFault.l0 k x0 (wrap64 (x3 + 1))) else (some 1)) else (none)) else (none)) else (spec_StoreFault.l0 k x0 (wrap64 (x3 + 1)))) else (some 1)) else (some bt125.1))) else (none)) else (some 0)
def spec_StoreFault.f (k : Nat) (l0 : List (S50)) : Option (Int) := if (l0.length : Int) > 200 then (some 2) else (spec_StoreFault.l0 k l0 0)
set_option maxHeartbeats 1000000 in
set_option maxRecDepth 100000 in
theorem spec_StoreFault.calls (k : Nat) (A0 : Option Addr) (c0 : Nat) (l0 : List (S50)) (r : Int) (w : World) (hr0 : Kd.C k50 w A0 l0.length l0) (hc0 : l0.length ≤ c0) (h : spec_StoreFault.f k l0 = some r) :
  Calls Tryz.prog 28 #[.slice A0 l0.length c0] w fun e w' => e = .returned (.int .i64 r) ∧ Below w.heap.size w w' := by
 have HR := Lib.hid hr0
 clear hr0 hc0
 unfold spec_StoreFault.f at h
 by_cases c2 : (l0.length : Int) > 200
 ·
  rw [if_pos c2] at h
  obtain rfl := Option.some.inj h
  go_enter Tryz.func28, Tryz.ntmps28
  go_wp2
  go_ret
  exact ⟨rfl, Below.refl _ _⟩
 rw [if_neg c2] at h
 have H0 := Lib.hid h
 clear h
 have hu := Tryz.underlying43
 go_enter Tryz.func28, Tryz.ntmps28
 go_wp2
 go_loopg [3] k (fun kq v3 wr => ∃ i : Nat, v3 = .int .i64 i ∧ i ≤ l0.length ∧ Aside (spec_StoreFault.l0 kq l0 i = some r) ∧ Aside (Below w.heap.size w wr))
 case atStart => exact ⟨0, rfl, Nat.zero_le _, H0.out, Below.refl _ w⟩
 case round =>
  clear H0
  obtain ⟨i, rfl, hi, HA, HB⟩ := hrel
  cases gk with
  | zero => exact absurd HA.out (by simp [spec_StoreFault.l0])
  | succ k1 =>
   have H := HA.out
   clear HA
   simp only [spec_StoreFault.l0] at H
   by_cases c3 : (i : Int) < (l0.length : Int)
   ·
    have c4 : (0 : Int) ≤ (i : Int) := Int.natCast_nonneg i
    rw [if_pos c3, if_pos c4] at H
    obtain ⟨⟨t, s⟩, A5, H⟩ := Option.bind_eq_some_iff.mp H
    obtain ⟨ad, rfl, q0, q1, q2⟩ := at_T50 (Kd.C_below HR.out HB.out) (i : Int) c4 c3
    have hw : wrap64 ((i : Int) + 1) = ((i + 1 : Nat) : Int) := (YtpnoghcdfbmpoaaGreatDoorX.wrap_in zq7 zq7).trans zq7
    rw [Int.toNat_natCast] at q0 q1 q2
    obtain ⟨x, hx⟩ : ∃ x, rd_T50 l0 (i : Int) = x := ⟨_, rfl⟩
    rw [hx] at A5 q0 q1 q2 H
    have HX := Lib.hid hx
    have H5 := Lib.hid A5
    have HH := Lib.hid H
    have HW := Lib.hid hw
    clear A5 H hx hw
    go_wp2
    have hK0 : wr.cell? (ad.add (i * 3)) = some (.string x.f0) ∧ wr.cell? ⟨(ad.add (i * 3)).block, (ad.add (i * 3)).off + 1, none⟩ = some (.int .i64 x.f1) ∧ wr.cell? ⟨(ad.add (i * 3)).block, (ad.add (i * 3)).off + 2, none⟩ = some (.string x.f2) ∧ Below wr.heap.size wr wr := ⟨q0, q1, q2, Below.refl _ _⟩
    go_region_held3 (fun w' => w'.cell? (ad.add (i * 3)) = some (.string x.f0) ∧ w'.cell? ⟨(ad.add (i * 3)).block, (ad.add (i * 3)).off + 1, none⟩ = some (.int .i64 x.f1) ∧ w'.cell? ⟨(ad.add (i * 3)).block, (ad.add (i * 3)).off + 2, none⟩ = some (.string x.f2) ∧ Below wr.heap.size wr w') (with_reducible repeat (first | assumption | exact hK0 | (refine X.keepO ?_ hb) | apply X.keepO_alloc | apply X.keepO_drewN | apply X.keepO_drew | (refine X.keepO_set hK0 ?_ (by first | exact Nat.le_refl _ | exact hb.size | (exact (hHeld.2.2.2).size)))))
     (first
      | (go_at_call 56; (with_reducible refine (spec_IdOf.calls k1 x.f1 x.f2 t s _ H5.out).mono ?_); rintro e w' ⟨rfl, hb⟩; (try (have hbx := blk_below (zP (blk_new wr (.cells #[.int .i64 0, .string ⟨#[]⟩] 43 (0, 0)))) hb; have y0 : w'.cell? ⟨wr.heap.size, 0, none⟩ = some (.int .i64 0) := (blk_cell hbx 0).trans rfl; have y1 : w'.cell? ⟨wr.heap.size, 1, none⟩ = some (.string ⟨#[]⟩) := (blk_cell hbx 1).trans rfl; have f0 := blk_frozen hbx 0; have f1 := blk_frozen hbx 1))))
    all_goals (
     rename_i hHeld
     first
      | (have hbk := blk_put (blk_put hbx 0 (.int .i64 t) rfl) 1 (.string s) rfl; have hgb := Nat.le_refl wr.heap.size; generalize hgg : wr.heap.size = gb at hgb hbk hHeld ⊢; rw [← hgg] at hgb; generalize ((w'.setCell ⟨gb, 0, none⟩ (.int .i64 t)).setCell ⟨gb, 1, none⟩ (.string s)) = W3 at hbk hHeld ⊢; rw [← hgg] at hHeld)
      | (have hbk := blk_new w' (.cells #[.int .i64 t, .string s] 43 (0, 0)); have hgb : wr.heap.size ≤ w'.heap.size := hb.size; generalize w'.alloc (.cells #[.int .i64 t, .string s] 43 (0, 0)) = W3 at hbk hHeld ⊢; generalize w'.heap.size = gb at hgb hbk ⊢)
     clear hb
     obtain ⟨z0, z1, z2, hB3⟩ := hHeld
     have g0 : W3.cell? ⟨gb, 0, none⟩ = some (.int .i64 t) := (blk_cell hbk 0).trans rfl
     have g1 : W3.cell? ⟨gb, 1, none⟩ = some (.string s) := (blk_cell hbk 1).trans rfl
     have B3 := Lib.hid (HB.out.trans (hB3.mono HB.out.size))
     clear hB3 hbk hK0 q0 q1 q2 z1 z2
     by_cases ht : t = 0
     ·
      have H := HH.out
      rw [if_pos ht] at H
      subst ht
      by_cases hs : s.toList = x.f0.toList
      ·
       rw [if_pos hs] at H
       have hsb : (s.toList == x.f0.toList) = true := beq_iff_eq.mpr hs
       have hsb2 : (s.toList != x.f0.toList) = false := bne_eq_false_iff_eq.mpr hs
       by_cases hp : (i : Int) > 0
       ·
        obtain ⟨m, hm⟩ : ∃ m : Nat, i = m + 1 := ⟨i - 1, by omega⟩
        have hws : wrap64 ((i : Int) - 1) = (m : Int) := (YtpnoghcdfbmpoaaGreatDoorX.wrap_in zq7 zq7).trans zq7
        have hwi : IntKind.i64.wrap ((i : Int) - 1) = (m : Int) := (i64_w _).trans hws
        have hp0 : 0 < i := by omega
        have hp1 : decide ((0 : Int) < (i : Int)) = true := decide_eq_true hp
        have hm0 : (0 : Int) ≤ (m : Int) := Int.natCast_nonneg m
        have hml : (m : Int) < (l0.length : Int) := by omega
        obtain ⟨a3, e3, r0, _, _⟩ := at_T50 (Kd.C_below HR.out B3.out) (m : Int) hm0 hml
        obtain rfl : ad = a3 := Option.some.inj e3
        rw [Int.toNat_natCast] at r0
        rw [if_pos hp, hws, if_pos hm0, if_pos hml] at H
        generalize rd_T50 l0 (m : Int) = y at r0 H
        have HM := Lib.hid hm
        clear hs hws hm
        cases hl : Op.bytesLess y.f0.toList x.f0.toList with
        | true =>
         rw [hl, if_pos rfl] at H
         rw [HW.out] at H
         have H7 := Lib.hid H
         clear H HH
         go_wp2
         go_quiet (fail)
         have B4 := Lib.hid (show Below w.heap.size w (W3.drewN nq) from zN B3.out nq)
         generalize W3.drewN nq = W4 at B4 ⊢
         clear z0 g0 g1
         go_wp2
         go_roundg k1
         case measure => omega
         case rel => exact ⟨i + 1, by go_num, by omega, H7.out, B4.out⟩
        | false =>
         rw [hl, if_neg zq9] at H
         obtain rfl := Option.some.inj H
         clear H HH
         go_wp2
         go_quiet (fail)
         have B4 := Lib.hid (show Below w.heap.size w (W3.drewN nq) from zN B3.out nq)
         generalize W3.drewN nq = W4 at B4 ⊢
         clear z0 g0 g1
         go_wp2
         go_ret
         exact ⟨rfl, B4.out⟩
       ·
        rw [if_neg hp] at H
        have hp1 : decide ((0 : Int) < (i : Int)) = false := decide_eq_false hp
        have hp0 : ¬ 0 < i := by omega
        have hp2 : decide (0 < i) = false := decide_eq_false hp0
        clear hs
        rw [HW.out] at H
        have H7 := Lib.hid H
        clear H HH
        go_wp2
        go_quiet (fail)
        have B4 := Lib.hid (show Below w.heap.size w (W3.drewN nq) from zN B3.out nq)
        generalize W3.drewN nq = W4 at B4 ⊢
        clear z0 g0 g1
        go_wp2
        go_roundg k1
        case measure => omega
        case rel => exact ⟨i + 1, by go_num, by omega, H7.out, B4.out⟩
      ·
       rw [if_neg hs] at H
       have hsb : (s.toList == x.f0.toList) = false := beq_eq_false_iff_ne.mpr hs
       have hsb2 : (s.toList != x.f0.toList) = true := bne_iff_ne.mpr hs
       clear hs
       obtain rfl := Option.some.inj H
       clear H HH
       go_wp2
       go_quiet (fail)
       have B4 := Lib.hid (show Below w.heap.size w (W3.drewN nq) from zN B3.out nq)
       generalize W3.drewN nq = W4 at B4 ⊢
       clear z0 g0 g1
       go_wp2
       go_ret
       exact ⟨rfl, B4.out⟩
     ·
      have H := HH.out
      rw [if_neg ht] at H
      obtain rfl := Option.some.inj H
      have hb1 : (t != 0) = true := bne_iff_ne.mpr ht
      have hb2 : (t == 0) = false := beq_eq_false_iff_ne.mpr ht
      clear H HH
      go_wp2
      go_ret
      exact ⟨rfl, B3.out⟩)
   rw [if_neg c3] at H
   obtain rfl := Option.some.inj H
   clear H
   go_wp2
   go_ret
   exact ⟨rfl, HB.out⟩
end Go.Proofs.YtpnoghcdfbmpoaaGreatDoor.PX
