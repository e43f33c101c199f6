/- Texts of this claim set one behind another by wip/bundle.py: XStW, XStS, PXf40, XTrS, PXf171, PXf120. -/
import Derived.Test.YtkjgnnhpjcofiaaGreatDoorBReadFiles9
import Derived.Test.YtkjgnnhpjcofiaaGreatDoorBReadFiles5
import Derived.Test.YtkjgnnhpjcofiaaGreatDoorBReadFiles14
import Derived.Test.YtkjgnnhpjcofiaaGreatDoorBReadFiles4
import Derived.Lib.Hide
import Derived.IntWalk
import Derived.Deep.RegionHeld3
import Derived.Deep.QuietTactic
import Derived.BigQuiet
namespace Go.Proofs.YtkjgnnhpjcofiaaGreatDoor.PX.X
open Go Go.RowKit Go.Lib Go.Proofs.YtkjgnnhpjcofiaaGreatDoorW.PrintWords Go.Proofs.YtkjgnnhpjcofiaaGreatDoorW.PrintLast Go.Proofs.YtkjgnnhpjcofiaaGreatDoorW.PrintMore
set_option linter.unusedVariables false
set_option linter.unusedSimpArgs false
section keeps
variable {a b c : Addr} {va vb vc : Value} {W w' w'' : World}
theorem keepO (h : w'.cell? a = some va ∧ w'.cell? b = some vb ∧ w'.cell? c = some vc ∧ Below W.heap.size W w') (hb : Below w'.heap.size w' w'') : w''.cell? a = some va ∧ w''.cell? b = some vb ∧ w''.cell? c = some vc ∧ Below W.heap.size W w'' :=
 ⟨(hb.cell (World.block_lt_of_cell? w' _ h.1)).trans h.1, (hb.cell (World.block_lt_of_cell? w' _ h.2.1)).trans h.2.1, (hb.cell (World.block_lt_of_cell? w' _ h.2.2.1)).trans h.2.2.1, h.2.2.2.trans (hb.mono h.2.2.2.size)⟩
theorem keepO_alloc (o : Obj) (h : w'.cell? a = some va ∧ w'.cell? b = some vb ∧ w'.cell? c = some vc ∧ Below W.heap.size W w') : (w'.alloc o).cell? a = some va ∧ (w'.alloc o).cell? b = some vb ∧ (w'.alloc o).cell? c = some vc ∧ Below W.heap.size W (w'.alloc o) :=
 keepO h ((Below.refl _ _).alloc (Nat.le_refl _) _)
theorem keepO_drew (h : w'.cell? a = some va ∧ w'.cell? b = some vb ∧ w'.cell? c = some vc ∧ Below W.heap.size W w') : w'.drew.cell? a = some va ∧ w'.drew.cell? b = some vb ∧ w'.drew.cell? c = some vc ∧ Below W.heap.size W w'.drew :=
 keepO h (below_drew1 (Below.refl _ _))
theorem keepO_drewN (n : Nat) (h : w'.cell? a = some va ∧ w'.cell? b = some vb ∧ w'.cell? c = some vc ∧ Below W.heap.size W w') : (w'.drewN n).cell? a = some va ∧ (w'.drewN n).cell? b = some vb ∧ (w'.drewN n).cell? c = some vc ∧ Below W.heap.size W (w'.drewN n) :=
 keepO h (pw_below_drewN (Below.refl _ _) n)
theorem keepO_set {g j : Nat} {v : Value} (hz : W.cell? a = some va ∧ W.cell? b = some vb ∧ W.cell? c = some vc ∧ Below W.heap.size W W) (h : w'.cell? a = some va ∧ w'.cell? b = some vb ∧ w'.cell? c = some vc ∧ Below W.heap.size W w') (hg : W.heap.size ≤ g) : (w'.setCell ⟨g, j, none⟩ v).cell? a = some va ∧ (w'.setCell ⟨g, j, none⟩ v).cell? b = some vb ∧ (w'.setCell ⟨g, j, none⟩ v).cell? c = some vc ∧ Below W.heap.size W (w'.setCell ⟨g, j, none⟩ v) :=
 ⟨(cell_far (p := ⟨g, j, none⟩) (Nat.ne_of_lt (Nat.lt_of_lt_of_le (World.block_lt_of_cell? W _ hz.1) hg)) v).trans h.1, (cell_far (p := ⟨g, j, none⟩) (Nat.ne_of_lt (Nat.lt_of_lt_of_le (World.block_lt_of_cell? W _ hz.2.1) hg)) v).trans h.2.1, (cell_far (p := ⟨g, j, none⟩) (Nat.ne_of_lt (Nat.lt_of_lt_of_le (World.block_lt_of_cell? W _ hz.2.2.1) hg)) v).trans h.2.2.1, below_set h.2.2.2 hg⟩
end keeps
theorem blk_three {w : World} {g : Nat} {t : TypeId} {a0 a1 a2 : Value} (h : w.heap[g]? = some (.cells #[a0, a1, a2] t (0, 0))) (v0 v1 v2 : Value) : (((w.setCell ⟨g, 0, none⟩ v0).setCell ⟨g, 1, none⟩ v1).setCell ⟨g, 2, none⟩ v2).heap[g]? = some (.cells #[v0, v1, v2] t (0, 0)) :=
 blk_put (cs := #[v0, v1, a2]) (blk_put (cs := #[v0, a1, a2]) (blk_put (cs := #[a0, a1, a2]) h 0 v0 rfl) 1 v1 rfl) 2 v2 rfl
end Go.Proofs.YtkjgnnhpjcofiaaGreatDoor.PX.X



namespace Go.Proofs.YtkjgnnhpjcofiaaGreatDoor.PX
open Go.RowKit Go.Proofs.YtkjgnnhpjcofiaaGreatDoorW.PrintWords Go.Proofs.YtkjgnnhpjcofiaaGreatDoorW.PrintLast Go.Proofs.YtkjgnnhpjcofiaaGreatDoorW.PrintMore
attribute [local go_sem] max2_int min2_int max_two min_two max_three min_three max_four min_four   -- for this text's walks alone
set_option linter.unusedVariables false
set_option linter.unusedSimpArgs false
def spec_StoreFault.l0 : Nat → List (S65) → Int → Option (Int)
 | 0, _, _ => none
 | k + 1, x0, x3 => if x3 < (x0.length : Int) then (if 0 ≤ x3 then ((spec_IdOf.f k ((rd_T65 x0 x3).f1) ((rd_T65 x0 x3).f2)).bind fun bt125 => (if bt125.1 = 0 then (if bt125.2.toList = ((rd_T65 x0 x3).f0).toList then (if x3 > 0 then (if 0 ≤ (wrap64 (x3 - 1)) then (if (wrap64 (x3 - 1)) < (x0.length : Int) then (if ((Op.bytesLess (((rd_T65 x0 (wrap64 (x3 - 1))).f0).toList) (((rd_T65 x0 x3).f0).toList)) = true) then (spec_StoreFault.l0 k x0 (wrap64 (x3 + 1))) else (some 1)) else (none)) else (none)) else (spec_StoreFault.l0 k x0 (wrap64 (x3 + 1)))) else (some 1)) else (some bt125.1))) else (none)) else (some 0)
def spec_StoreFault.f (k : Nat) (l0 : List (S65)) : Option (Int) := if (l0.length : Int) > 200 then (some 2) else (spec_StoreFault.l0 k l0 0)
set_option maxHeartbeats 1000000 in
set_option maxRecDepth 100000 in
theorem spec_StoreFault.calls (k : Nat) (A0 : Option Addr) (c0 : Nat) (l0 : List (S65)) (r : Int) (w : World) (hr0 : Kd.C k65 w A0 l0.length l0) (hc0 : l0.length ≤ c0) (h : spec_StoreFault.f k l0 = some r) :
  Calls Tryz.prog 40 #[.slice A0 l0.length c0] w fun e w' => e = .returned (.int .i64 r) ∧ Below w.heap.size w w' := by
 have HR := Lib.hid hr0
 clear hr0 hc0
 unfold spec_StoreFault.f at h
 by_cases c2 : (l0.length : Int) > 200
 ·
  rw [if_pos c2] at h
  obtain rfl := Option.some.inj h
  go_enter Tryz.func40, Tryz.ntmps40
  go_wp2
  go_ret
  exact ⟨rfl, Below.refl _ _⟩
 rw [if_neg c2] at h
 have H0 := Lib.hid h
 clear h
 have hu := Tryz.underlying95
 go_enter Tryz.func40, Tryz.ntmps40
 go_wp2
 go_loopg [3] k (fun kq v3 wr => ∃ i : Nat, v3 = .int .i64 i ∧ i ≤ l0.length ∧ Aside (spec_StoreFault.l0 kq l0 i = some r) ∧ Aside (Below w.heap.size w wr))
 case atStart => exact ⟨0, rfl, Nat.zero_le _, H0.out, Below.refl _ w⟩
 case round =>
  clear H0
  obtain ⟨i, rfl, hi, HA, HB⟩ := hrel
  cases gk with
  | zero => exact absurd HA.out (by simp [spec_StoreFault.l0])
  | succ k1 =>
   have H := HA.out
   clear HA
   simp only [spec_StoreFault.l0] at H
   by_cases c3 : (i : Int) < (l0.length : Int)
   ·
    have c4 : (0 : Int) ≤ (i : Int) := Int.natCast_nonneg i
    rw [if_pos c3, if_pos c4] at H
    obtain ⟨⟨t, s⟩, A5, H⟩ := Option.bind_eq_some_iff.mp H
    obtain ⟨ad, rfl, q0, q1, q2⟩ := at_T65 (Kd.C_below HR.out HB.out) (i : Int) c4 c3
    have hw : wrap64 ((i : Int) + 1) = ((i + 1 : Nat) : Int) := (YtkjgnnhpjcofiaaGreatDoorX.wrap_in zq7 zq7).trans zq7
    rw [Int.toNat_natCast] at q0 q1 q2
    obtain ⟨x, hx⟩ : ∃ x, rd_T65 l0 (i : Int) = x := ⟨_, rfl⟩
    rw [hx] at A5 q0 q1 q2 H
    have HX := Lib.hid hx
    have H5 := Lib.hid A5
    have HH := Lib.hid H
    have HW := Lib.hid hw
    clear A5 H hx hw
    go_wp2
    have hK0 : wr.cell? (ad.add (i * 3)) = some (.string x.f0) ∧ wr.cell? ⟨(ad.add (i * 3)).block, (ad.add (i * 3)).off + 1, none⟩ = some (.int .i64 x.f1) ∧ wr.cell? ⟨(ad.add (i * 3)).block, (ad.add (i * 3)).off + 2, none⟩ = some (.string x.f2) ∧ Below wr.heap.size wr wr := ⟨q0, q1, q2, Below.refl _ _⟩
    go_region_held3 (fun w' => w'.cell? (ad.add (i * 3)) = some (.string x.f0) ∧ w'.cell? ⟨(ad.add (i * 3)).block, (ad.add (i * 3)).off + 1, none⟩ = some (.int .i64 x.f1) ∧ w'.cell? ⟨(ad.add (i * 3)).block, (ad.add (i * 3)).off + 2, none⟩ = some (.string x.f2) ∧ Below wr.heap.size wr w') (with_reducible repeat (first | assumption | exact hK0 | (refine X.keepO ?_ hb) | apply X.keepO_alloc | apply X.keepO_drewN | apply X.keepO_drew | (refine X.keepO_set hK0 ?_ (by first | exact Nat.le_refl _ | exact hb.size | (exact (hHeld.2.2.2).size)))))
     (first
      | (go_at_call 72; (with_reducible refine (spec_IdOf.calls k1 x.f1 x.f2 t s _ H5.out).mono ?_); rintro e w' ⟨rfl, hb⟩; (try (have hbx := blk_below (zP (blk_new wr (.cells #[.int .i64 0, .string ⟨#[]⟩] 95 (0, 0)))) hb; have y0 : w'.cell? ⟨wr.heap.size, 0, none⟩ = some (.int .i64 0) := (blk_cell hbx 0).trans rfl; have y1 : w'.cell? ⟨wr.heap.size, 1, none⟩ = some (.string ⟨#[]⟩) := (blk_cell hbx 1).trans rfl; have f0 := blk_frozen hbx 0; have f1 := blk_frozen hbx 1))))
    all_goals (
     rename_i hHeld
     first
      | (have hbk := blk_put (blk_put hbx 0 (.int .i64 t) rfl) 1 (.string s) rfl; have hgb := Nat.le_refl wr.heap.size; generalize hgg : wr.heap.size = gb at hgb hbk hHeld ⊢; rw [← hgg] at hgb; generalize ((w'.setCell ⟨gb, 0, none⟩ (.int .i64 t)).setCell ⟨gb, 1, none⟩ (.string s)) = W3 at hbk hHeld ⊢; rw [← hgg] at hHeld)
      | (have hbk := blk_new w' (.cells #[.int .i64 t, .string s] 95 (0, 0)); have hgb : wr.heap.size ≤ w'.heap.size := hb.size; generalize w'.alloc (.cells #[.int .i64 t, .string s] 95 (0, 0)) = W3 at hbk hHeld ⊢; generalize w'.heap.size = gb at hgb hbk ⊢)
     clear hb
     obtain ⟨z0, z1, z2, hB3⟩ := hHeld
     have g0 : W3.cell? ⟨gb, 0, none⟩ = some (.int .i64 t) := (blk_cell hbk 0).trans rfl
     have g1 : W3.cell? ⟨gb, 1, none⟩ = some (.string s) := (blk_cell hbk 1).trans rfl
     have B3 := Lib.hid (HB.out.trans (hB3.mono HB.out.size))
     clear hB3 hbk hK0 q0 q1 q2 z1 z2
     by_cases ht : t = 0
     ·
      have H := HH.out
      rw [if_pos ht] at H
      subst ht
      by_cases hs : s.toList = x.f0.toList
      ·
       rw [if_pos hs] at H
       have hsb : (s.toList == x.f0.toList) = true := beq_iff_eq.mpr hs
       have hsb2 : (s.toList != x.f0.toList) = false := bne_eq_false_iff_eq.mpr hs
       by_cases hp : (i : Int) > 0
       ·
        obtain ⟨m, hm⟩ : ∃ m : Nat, i = m + 1 := ⟨i - 1, by omega⟩
        have hws : wrap64 ((i : Int) - 1) = (m : Int) := (YtkjgnnhpjcofiaaGreatDoorX.wrap_in zq7 zq7).trans zq7
        have hwi : IntKind.i64.wrap ((i : Int) - 1) = (m : Int) := (i64_w _).trans hws
        have hp0 : 0 < i := by omega
        have hp1 : decide ((0 : Int) < (i : Int)) = true := decide_eq_true hp
        have hm0 : (0 : Int) ≤ (m : Int) := Int.natCast_nonneg m
        have hml : (m : Int) < (l0.length : Int) := by omega
        obtain ⟨a3, e3, r0, _, _⟩ := at_T65 (Kd.C_below HR.out B3.out) (m : Int) hm0 hml
        obtain rfl : ad = a3 := Option.some.inj e3
        rw [Int.toNat_natCast] at r0
        rw [if_pos hp, hws, if_pos hm0, if_pos hml] at H
        generalize rd_T65 l0 (m : Int) = y at r0 H
        have HM := Lib.hid hm
        clear hs hws hm
        cases hl : Op.bytesLess y.f0.toList x.f0.toList with
        | true =>
         rw [hl, if_pos rfl] at H
         rw [HW.out] at H
         have H7 := Lib.hid H
         clear H HH
         go_wp2
         go_quiet (fail)
         have B4 := Lib.hid (show Below w.heap.size w (W3.drewN nq) from zN B3.out nq)
         generalize W3.drewN nq = W4 at B4 ⊢
         clear z0 g0 g1
         go_wp2
         go_roundg k1
         case measure => omega
         case rel => exact ⟨i + 1, by go_num, by omega, H7.out, B4.out⟩
        | false =>
         rw [hl, if_neg zq13] at H
         obtain rfl := Option.some.inj H
         clear H HH
         go_wp2
         go_quiet (fail)
         have B4 := Lib.hid (show Below w.heap.size w (W3.drewN nq) from zN B3.out nq)
         generalize W3.drewN nq = W4 at B4 ⊢
         clear z0 g0 g1
         go_wp2
         go_ret
         exact ⟨rfl, B4.out⟩
       ·
        rw [if_neg hp] at H
        have hp1 : decide ((0 : Int) < (i : Int)) = false := decide_eq_false hp
        have hp0 : ¬ 0 < i := by omega
        have hp2 : decide (0 < i) = false := decide_eq_false hp0
        clear hs
        rw [HW.out] at H
        have H7 := Lib.hid H
        clear H HH
        go_wp2
        go_quiet (fail)
        have B4 := Lib.hid (show Below w.heap.size w (W3.drewN nq) from zN B3.out nq)
        generalize W3.drewN nq = W4 at B4 ⊢
        clear z0 g0 g1
        go_wp2
        go_roundg k1
        case measure => omega
        case rel => exact ⟨i + 1, by go_num, by omega, H7.out, B4.out⟩
      ·
       rw [if_neg hs] at H
       have hsb : (s.toList == x.f0.toList) = false := beq_eq_false_iff_ne.mpr hs
       have hsb2 : (s.toList != x.f0.toList) = true := bne_iff_ne.mpr hs
       clear hs
       obtain rfl := Option.some.inj H
       clear H HH
       go_wp2
       go_quiet (fail)
       have B4 := Lib.hid (show Below w.heap.size w (W3.drewN nq) from zN B3.out nq)
       generalize W3.drewN nq = W4 at B4 ⊢
       clear z0 g0 g1
       go_wp2
       go_ret
       exact ⟨rfl, B4.out⟩
     ·
      have H := HH.out
      rw [if_neg ht] at H
      obtain rfl := Option.some.inj H
      have hb1 : (t != 0) = true := bne_iff_ne.mpr ht
      have hb2 : (t == 0) = false := beq_eq_false_iff_ne.mpr ht
      clear H HH
      go_wp2
      go_ret
      exact ⟨rfl, B3.out⟩)
   rw [if_neg c3] at H
   obtain rfl := Option.some.inj H
   clear H
   go_wp2
   go_ret
   exact ⟨rfl, HB.out⟩
end Go.Proofs.YtkjgnnhpjcofiaaGreatDoor.PX



namespace Go.Proofs.YtkjgnnhpjcofiaaGreatDoor.PX
open Go.RowKit Go.Proofs.YtkjgnnhpjcofiaaGreatDoorW.PrintWords Go.Proofs.YtkjgnnhpjcofiaaGreatDoorW.PrintLast Go.Proofs.YtkjgnnhpjcofiaaGreatDoorW.PrintMore
attribute [local go_sem] max2_int min2_int max_two min_two max_three min_three max_four min_four   -- for this text's walks alone
set_option linter.unusedVariables false
set_option linter.unusedSimpArgs false
def spec_TreeFault.l0 : Nat → List (S118) → Int → Option (Int)
 | 0, _, _ => none
 | k + 1, x0, x3 => if x3 < (x0.length : Int) then (if 0 ≤ x3 then ((spec_NameFault.f k ((rd_T118 x0 x3).f0)).bind fun t153 => (if t153 = 0 then ((spec_l1In.f ((rd_T118 x0 x3).f1) 1 3).bind fun t154 => (if t154 = true then (if ((rd_T118 x0 x3).f1) = 3 then ((spec_l6Is.f k ((rd_T118 x0 x3).f2) 2).bind fun t155 => (if t155 = true then (if x3 > 0 then (if 0 ≤ (wrap64 (x3 - 1)) then (if (wrap64 (x3 - 1)) < (x0.length : Int) then (if ((Op.bytesLess (((rd_T118 x0 (wrap64 (x3 - 1))).f0).toList) (((rd_T118 x0 x3).f0).toList)) = true) then (spec_TreeFault.l0 k x0 (wrap64 (x3 + 1))) else (some 1)) else (none)) else (none)) else (spec_TreeFault.l0 k x0 (wrap64 (x3 + 1)))) else (some 1))) else ((spec_l6Is.f k ((rd_T118 x0 x3).f2) 1).bind fun t157 => (if t157 = true then (if x3 > 0 then (if 0 ≤ (wrap64 (x3 - 1)) then (if (wrap64 (x3 - 1)) < (x0.length : Int) then (if ((Op.bytesLess (((rd_T118 x0 (wrap64 (x3 - 1))).f0).toList) (((rd_T118 x0 x3).f0).toList)) = true) then (spec_TreeFault.l0 k x0 (wrap64 (x3 + 1))) else (some 1)) else (none)) else (none)) else (spec_TreeFault.l0 k x0 (wrap64 (x3 + 1)))) else (some 1)))) else (some 3))) else (some t153))) else (none)) else ((spec_l6Tree.f k x0).bind fun t149 => ((spec_TextFault.f k t149).bind fun t150 => (some t150)))
def spec_TreeFault.f (k : Nat) (l0 : List (S118)) : Option (Int) := if (l0.length : Int) > 100 then (some 2) else (spec_TreeFault.l0 k l0 0)
set_option maxHeartbeats 4000000 in
set_option maxRecDepth 100000 in
theorem spec_TreeFault.calls (k : Nat) (A0 : Option Addr) (c0 : Nat) (l0 : List (S118)) (r : Int) (w : World) (hr0 : Kd.C k118 w A0 l0.length l0) (hc0 : l0.length ≤ c0) (h : spec_TreeFault.f k l0 = some r) :
  Calls Tryz.prog 171 #[.slice A0 l0.length c0] w fun e w' => e = .returned (.int .i64 r) ∧ Below w.heap.size w w' := by
 have HR := Lib.hid hr0
 have HC0 := Lib.hid hc0
 clear hr0 hc0
 unfold spec_TreeFault.f at h
 by_cases c2 : (l0.length : Int) > 100
 ·
  rw [if_pos c2] at h
  obtain rfl := Option.some.inj h
  go_enter Tryz.func171, Tryz.ntmps171
  go_wp2
  go_ret
  exact ⟨rfl, Below.refl _ _⟩
 rw [if_neg c2] at h
 have H0 := Lib.hid h
 clear h
 go_enter Tryz.func171, Tryz.ntmps171
 go_wp2
 go_loopg [3] k (fun kq v3 wr => ∃ i : Nat, v3 = .int .i64 i ∧ i ≤ l0.length ∧ Aside (spec_TreeFault.l0 kq l0 i = some r) ∧ Aside (Below w.heap.size w wr))
 case atStart => exact ⟨0, rfl, Nat.zero_le _, H0.out, Below.refl _ w⟩
 case round =>
  clear H0
  rename World => wq
  obtain ⟨i, rfl, hi, HA, BW⟩ := hrel
  cases gk with
  | zero => exact absurd HA.out (by simp [spec_TreeFault.l0])
  | succ k1 =>
   have H := HA.out
   clear HA
   simp only [spec_TreeFault.l0] at H
   by_cases c3 : (i : Int) < (l0.length : Int)
   ·
    have c4 : (0 : Int) ≤ (i : Int) := Int.natCast_nonneg i
    rw [if_pos c3, if_pos c4] at H
    obtain ⟨ad, rfl, q0, q1, q2⟩ := at_T118 (Kd.C_below HR.out BW.out) (i : Int) c4 c3
    have hw : wrap64 ((i : Int) + 1) = ((i + 1 : Nat) : Int) := (YtkjgnnhpjcofiaaGreatDoorX.wrap_in zq7 zq7).trans zq7
    rw [Int.toNat_natCast] at q0 q1 q2
    obtain ⟨x, hx⟩ : ∃ x, rd_T118 l0 (i : Int) = x := ⟨_, rfl⟩
    rw [hx] at q0 q1 q2 H
    obtain ⟨t, A1, H⟩ := Option.bind_eq_some_iff.mp H
    have HNF := Lib.hid (fun W => spec_NameFault.calls k1 x.f0 t W A1)
    have HW := Lib.hid hw
    clear hx hw A1
    by_cases ht : t = 0
    case neg =>
     rw [if_neg ht] at H
     obtain rfl := Option.some.inj H
     clear H
     go_wp2_with (first | ((with_reducible refine gate_dst (N := 4) rfl ?_); refine box_event ?hg (N := 4) ?hd (cs := #[.string (⟨#[]⟩ : ByteArray), .int .i64 0, .string (⟨#[]⟩ : ByteArray)]) (t := 118) ?hr ?_; (case hd => rfl); (case hg => rfl); (case hr => first | (go_simp; done) | (go_simp; rfl)); intro ge hge w4 hbox hb4; have HBX := Lib.hid hbox; have B4 := Lib.hid hb4; have HGE := Lib.hid hge; have y0 := (blk_cell hbox 0).trans rfl; have y1 := (blk_cell hbox 1).trans rfl; have y2 := (blk_cell hbox 2).trans rfl; have f0 := blk_frozen hbox 0; have f1 := blk_frozen hbox 1; have f2 := blk_frozen hbox 2; clear hbox hb4 hge) | (go_at_call 131; (with_reducible refine (HNF.out _).mono ?_); rintro e w5 ⟨rfl, hb⟩; have B5 := Lib.hid hb.below; clear hb))
     go_ret
     have hgq : wq.heap.size ≤ ge := Nat.le_of_eq HGE.out.symm
     have hb5 : Below wq.heap.size wq (((w4.setCell ⟨ge, 0, none⟩ (.string x.f0)).setCell ⟨ge, 1, none⟩ (.int .i64 x.f1)).setCell ⟨ge, 2, none⟩ (.string x.f2)) := below_set (below_set (below_set B4.out hgq) hgq) hgq
     exact ⟨rfl, BW.out.trans ((hb5.trans (B5.out.mono hb5.size)).mono BW.out.size)⟩
    subst ht
    rw [if_pos rfl] at H
    obtain ⟨b, A2, H⟩ := Option.bind_eq_some_iff.mp H
    have HIN := Lib.hid (fun W => spec_l1In.calls x.f1 1 3 b W A2)
    clear A2
    cases b with
    | false =>
     rw [if_neg zq13] at H
     obtain rfl := Option.some.inj H
     clear H
     go_wp2_with (first | ((with_reducible refine gate_dst (N := 4) rfl ?_); refine box_event ?hg (N := 4) ?hd (cs := #[.string (⟨#[]⟩ : ByteArray), .int .i64 0, .string (⟨#[]⟩ : ByteArray)]) (t := 118) ?hr ?_; (case hd => rfl); (case hg => rfl); (case hr => first | (go_simp; done) | (go_simp; rfl)); intro ge hge w4 hbox hb4; have HBX := Lib.hid hbox; have B4 := Lib.hid hb4; have HGE := Lib.hid hge; have y0 := (blk_cell hbox 0).trans rfl; have y1 := (blk_cell hbox 1).trans rfl; have y2 := (blk_cell hbox 2).trans rfl; have f0 := blk_frozen hbox 0; have f1 := blk_frozen hbox 1; have f2 := blk_frozen hbox 2; clear hbox hb4 hge) | (go_at_call 131; (with_reducible refine (HNF.out _).mono ?_); rintro e w5 ⟨rfl, hb⟩; have B5 := Lib.hid hb.below; have hgq : wq.heap.size ≤ ge := Nat.le_of_eq HGE.out.symm; have hb5 : Below wq.heap.size wq (((w4.setCell ⟨ge, 0, none⟩ (.string x.f0)).setCell ⟨ge, 1, none⟩ (.int .i64 x.f1)).setCell ⟨ge, 2, none⟩ (.string x.f2)) := below_set (below_set (below_set B4.out hgq) hgq) hgq; have H5 := Lib.hid (BW.out.trans ((hb5.trans (B5.out.mono hb5.size)).mono BW.out.size)); have hbk := blk_below (X.blk_three HBX.out (.string x.f0) (.int .i64 x.f1) (.string x.f2)) B5.out; have u1 : w5.cell? ⟨ge, 1, none⟩ = some (.int .i64 x.f1) := (blk_cell hbk 1).trans rfl; clear hb hbk hb5 hgq) | (go_at_call 63; (with_reducible refine (HIN.out _).mono ?_); rintro e w6 ⟨rfl, hb⟩; have B6 := Lib.hid hb.below; clear hb))
     go_ret
     exact ⟨rfl, H5.out.trans (B6.out.mono H5.out.size)⟩
    | true =>
     rw [if_pos rfl] at H
     have key : ∃ kd : Int, ∃ b2 : Bool, spec_l6Is.f k1 x.f2 kd = some b2 ∧ (kd = if x.f1 = 3 then 2 else 1) ∧ (if b2 = true then (if (i : Int) > 0 then (if 0 ≤ (wrap64 ((i : Int) - 1)) then (if (wrap64 ((i : Int) - 1)) < (l0.length : Int) then (if ((Op.bytesLess (((rd_T118 l0 (wrap64 ((i : Int) - 1))).f0).toList) (x.f0.toList)) = true) then (spec_TreeFault.l0 k1 l0 (wrap64 ((i : Int) + 1))) else (some 1)) else (none)) else (none)) else (spec_TreeFault.l0 k1 l0 (wrap64 ((i : Int) + 1)))) else (some 1)) = some r := by
      by_cases hm : x.f1 = 3
      ·
       rw [if_pos hm] at H
       obtain ⟨b2, A3, H⟩ := Option.bind_eq_some_iff.mp H
       exact ⟨2, b2, A3, (by rw [if_pos hm]), H⟩
      rw [if_neg hm] at H
      obtain ⟨b2, A3, H⟩ := Option.bind_eq_some_iff.mp H
      exact ⟨1, b2, A3, (by rw [if_neg hm]), H⟩
     obtain ⟨kd, b2, A3, hkd, H⟩ := key
     have HIS := Lib.hid (fun W => spec_l6Is.calls k1 x.f2 kd b2 W A3)
     have HH := Lib.hid H
     clear A3 H
     have hm : (x.f1 = 3 ∧ kd = 2) ∨ (¬ x.f1 = 3 ∧ kd = 1) := by
      by_cases hm : x.f1 = 3
      ·
       exact .inl ⟨hm, by rw [hkd, if_pos hm]⟩
      exact .inr ⟨hm, by rw [hkd, if_neg hm]⟩
     have hdd : ∃ bm : Bool, decide (x.f1 = 3) = bm ∧ (x.f1 == 3) = bm ∧ kd = if bm = true then 2 else 1 := by
      rcases hm with ⟨h1, h2⟩ | ⟨h1, h2⟩
      ·
       exact ⟨true, decide_eq_true h1, beq_iff_eq.mpr h1, h2⟩
      exact ⟨false, decide_eq_false h1, beq_eq_false_iff_ne.mpr h1, h2⟩
     obtain ⟨bm, hd1, hd2, hkd2⟩ := hdd
     clear hm hkd
     cases bm
     all_goals (
      simp only [if_true, Bool.false_eq_true, if_false] at hkd2
      subst hkd2
      go_wp2_with (first | ((with_reducible refine gate_dst (N := 4) rfl ?_); refine box_event ?hg (N := 4) ?hd (cs := #[.string (⟨#[]⟩ : ByteArray), .int .i64 0, .string (⟨#[]⟩ : ByteArray)]) (t := 118) ?hr ?_; (case hd => rfl); (case hg => rfl); (case hr => first | (go_simp; done) | (go_simp; rfl)); intro ge hge w4 hbox hb4; have HBX := Lib.hid hbox; have B4 := Lib.hid hb4; have HGE := Lib.hid hge; have y0 := (blk_cell hbox 0).trans rfl; have y1 := (blk_cell hbox 1).trans rfl; have y2 := (blk_cell hbox 2).trans rfl; have f0 := blk_frozen hbox 0; have f1 := blk_frozen hbox 1; have f2 := blk_frozen hbox 2; clear hbox hb4 hge) | (go_at_call 131; (with_reducible refine (HNF.out _).mono ?_); rintro e w5 ⟨rfl, hb⟩; have B5 := Lib.hid hb.below; have hgq : wq.heap.size ≤ ge := Nat.le_of_eq HGE.out.symm; have hb5 : Below wq.heap.size wq (((w4.setCell ⟨ge, 0, none⟩ (.string x.f0)).setCell ⟨ge, 1, none⟩ (.int .i64 x.f1)).setCell ⟨ge, 2, none⟩ (.string x.f2)) := below_set (below_set (below_set B4.out hgq) hgq) hgq; have H5 := Lib.hid (hb5.trans (B5.out.mono hb5.size)); have hbk := blk_below (X.blk_three HBX.out (.string x.f0) (.int .i64 x.f1) (.string x.f2)) B5.out; have HBK := Lib.hid hbk; have u1 : w5.cell? ⟨ge, 1, none⟩ = some (.int .i64 x.f1) := (blk_cell hbk 1).trans rfl; clear hb hbk hb5 hgq B5) | (go_at_call 63; (with_reducible refine (HIN.out _).mono ?_); rintro e w6 ⟨rfl, hb⟩; have B6 := Lib.hid hb.below; have hbk := blk_below HBK.out B6.out; have HBK6 := Lib.hid hbk; have u61 : w6.cell? ⟨ge, 1, none⟩ = some (.int .i64 x.f1) := (blk_cell hbk 1).trans rfl; clear hb hbk))
      have hbk := HBK6.out
      have x0 : w6.cell? ⟨ge, 0, none⟩ = some (.string x.f0) := (blk_cell hbk 0).trans rfl
      have x1 : w6.cell? ⟨ge, 1, none⟩ = some (.int .i64 x.f1) := u61
      have x2 : w6.cell? ⟨ge, 2, none⟩ = some (.string x.f2) := (blk_cell hbk 2).trans rfl
      have B5 := Lib.hid (H5.out.trans (B6.out.mono H5.out.size))
      clear hbk HBK HBK6 u1 u61 H5 B6 HBX B4 HGE y0 y1 y2 f0 f1 f2 q0 q1 q2 hd1 hd2
      cases b2 with
      | false =>
       have H := HH.out
       rw [if_neg zq13] at H
       obtain rfl := Option.some.inj H
       clear H HH
       refine wp_region_noPanic ?_
       refine wp_region_held_drew (S := fun w' => w'.cell? ⟨ge, 0, none⟩ = some (.string x.f0) ∧ w'.cell? (⟨ge, 1, none⟩) = some (.int .i64 x.f1) ∧ w'.cell? ⟨ge, 2, none⟩ = some (.string x.f2) ∧ Below w6.heap.size w6 w') zq3 ⟨x0, x1, x2, zD (Below.refl _ _)⟩ ?_
       intro hS0
       generalize hLL : Array.replicate _ false = lst
       obtain rfl : lst = #[zF,zF,zF,zF,zF,zF,zF,zF,zF,zF,zF,zF,zF,zF,zF,zF,zF,zF,zF,zF] := hLL.symm.trans zq3
       clear hLL
       refine wpAnyH_take (i := 0) (v := ?_) rfl zq3 zq3 zq3 (fun _ _ _ h => (h : False).elim) (Or.inl ⟨by kernel_rfl, ?_⟩) zq9 ?_; rotate_left; (intro w' hSw; (try dsimp only at hSw); go_simp; (first | done | with_reducible rfl)); simp only [Act.put, zS, zT, zU, List.getElem_toArray, List.getElem_cons_zero, List.getElem_cons_succ]
       refine wpAnyH_take (i := 1) (v := ?_) rfl zq3 zq3 zq3 (fun _ _ _ h => (h : False).elim) (Or.inl ⟨by kernel_rfl, ?_⟩) zq9 ?_; rotate_left; (intro w' hSw; (try dsimp only at hSw); go_simp; (first | done | with_reducible rfl)); simp only [Act.put, zS, zT, zU, List.getElem_toArray, List.getElem_cons_zero, List.getElem_cons_succ]
       refine wpAnyH_take (i := 2) (v := ?_) rfl zq3 zq3 zq3 (fun _ _ _ h => (h : False).elim) (Or.inl ⟨by kernel_rfl, ?_⟩) zq9 ?_; rotate_left; (intro w' hSw; (try dsimp only at hSw); go_simp; (first | done | with_reducible rfl)); simp only [Act.put, zS, zT, zU, List.getElem_toArray, List.getElem_cons_zero, List.getElem_cons_succ]
       refine wpAnyH_ready (rs := [3]) zq3 zq16 ?_
       refine AllReadyH.cons rfl (fun K hK => ?_) AllReadyH.nil
       go_simp
       refine (HIS.out _).mono ?_
       rintro e V ⟨rfl, hv⟩
       refine hK.out _ _ (X.keepO hS0 hv.below) (fun hS1 => ?_)
       clear hK hS0 hv
       try simp only [Act.put, zS, zT, zU, List.getElem_toArray, List.getElem_cons_zero, List.getElem_cons_succ]
       refine wpAnyH_take (i := 4) (v := ?_) rfl zq3 zq3 zq3 (fun _ _ _ h => (h : False).elim) (Or.inl ⟨by kernel_rfl, ?_⟩) zq9 ?_; rotate_left; (intro w' hSw; (try dsimp only at hSw); go_simp; (first | done | with_reducible rfl)); simp only [Act.put, zS, zT, zU, List.getElem_toArray, List.getElem_cons_zero, List.getElem_cons_succ]
       refine wpAnyH_take (i := 5) (v := ?_) rfl zq3 zq3 zq3 (fun _ _ _ h => (h : False).elim) (Or.inl ⟨by kernel_rfl, ?_⟩) zq9 ?_; rotate_left; (intro w' hSw; (try dsimp only at hSw); go_simp; (first | done | with_reducible rfl)); simp only [Act.put, zS, zT, zU, List.getElem_toArray, List.getElem_cons_zero, List.getElem_cons_succ]
       refine wpAnyH_take (i := 6) (v := undef) rfl zq3 zq3 zq3 (fun _ _ _ h => (h : False).elim) (Or.inr ⟨by kernel_rfl, rfl⟩) zq9 ?_; simp only [Act.put, zS, zT, zU, List.getElem_toArray, List.getElem_cons_zero, List.getElem_cons_succ]
       refine wpAnyH_take (i := 7) (v := undef) rfl zq3 zq3 zq3 (fun _ _ _ h => (h : False).elim) (Or.inr ⟨by kernel_rfl, rfl⟩) zq9 ?_; simp only [Act.put, zS, zT, zU, List.getElem_toArray, List.getElem_cons_zero, List.getElem_cons_succ]
       refine wpAnyH_take (i := 8) (v := undef) rfl zq3 zq3 zq3 (fun _ _ _ h => (h : False).elim) (Or.inr ⟨by kernel_rfl, rfl⟩) zq9 ?_; simp only [Act.put, zS, zT, zU, List.getElem_toArray, List.getElem_cons_zero, List.getElem_cons_succ]
       refine wpAnyH_take (i := 9) (v := undef) rfl zq3 zq3 zq3 (fun _ _ _ h => (h : False).elim) (Or.inr ⟨by kernel_rfl, rfl⟩) zq9 ?_; simp only [Act.put, zS, zT, zU, List.getElem_toArray, List.getElem_cons_zero, List.getElem_cons_succ]
       refine wpAnyH_take (i := 10) (v := undef) rfl zq3 zq3 zq3 (fun _ _ _ h => (h : False).elim) (Or.inr ⟨by kernel_rfl, rfl⟩) zq9 ?_; simp only [Act.put, zS, zT, zU, List.getElem_toArray, List.getElem_cons_zero, List.getElem_cons_succ]
       refine wpAnyH_take (i := 11) (v := undef) rfl zq3 zq3 zq3 (fun _ _ _ h => (h : False).elim) (Or.inr ⟨by kernel_rfl, rfl⟩) zq9 ?_; simp only [Act.put, zS, zT, zU, List.getElem_toArray, List.getElem_cons_zero, List.getElem_cons_succ]
       refine wpAnyH_take (i := 12) (v := undef) rfl zq3 zq3 zq3 (fun _ _ _ h => (h : False).elim) (Or.inr ⟨by kernel_rfl, rfl⟩) zq9 ?_; simp only [Act.put, zS, zT, zU, List.getElem_toArray, List.getElem_cons_zero, List.getElem_cons_succ]
       refine wpAnyH_take (i := 13) (v := undef) rfl zq3 zq3 zq3 (fun _ _ _ h => (h : False).elim) (Or.inr ⟨by kernel_rfl, rfl⟩) zq9 ?_; simp only [Act.put, zS, zT, zU, List.getElem_toArray, List.getElem_cons_zero, List.getElem_cons_succ]
       refine wpAnyH_take (i := 14) (v := undef) rfl zq3 zq3 zq3 (fun _ _ _ h => (h : False).elim) (Or.inr ⟨by kernel_rfl, rfl⟩) zq9 ?_; simp only [Act.put, zS, zT, zU, List.getElem_toArray, List.getElem_cons_zero, List.getElem_cons_succ]
       refine wpAnyH_take (i := 15) (v := undef) rfl zq3 zq3 zq3 (fun _ _ _ h => (h : False).elim) (Or.inr ⟨by kernel_rfl, rfl⟩) zq9 ?_; simp only [Act.put, zS, zT, zU, List.getElem_toArray, List.getElem_cons_zero, List.getElem_cons_succ]
       refine wpAnyH_take (i := 16) (v := undef) rfl zq3 zq3 zq3 (fun _ _ _ h => (h : False).elim) (Or.inr ⟨by kernel_rfl, rfl⟩) zq9 ?_; simp only [Act.put, zS, zT, zU, List.getElem_toArray, List.getElem_cons_zero, List.getElem_cons_succ]
       refine wpAnyH_take (i := 17) (v := undef) rfl zq3 zq3 zq3 (fun _ _ _ h => (h : False).elim) (Or.inr ⟨by kernel_rfl, rfl⟩) zq9 ?_; simp only [Act.put, zS, zT, zU, List.getElem_toArray, List.getElem_cons_zero, List.getElem_cons_succ]
       refine wpAnyH_take (i := 18) (v := undef) rfl zq3 zq3 zq3 (fun _ _ _ h => (h : False).elim) (Or.inr ⟨by kernel_rfl, rfl⟩) zq9 ?_; simp only [Act.put, zS, zT, zU, List.getElem_toArray, List.getElem_cons_zero, List.getElem_cons_succ]
       refine wpAnyH_take (i := 19) (v := ?_) rfl zq3 zq3 zq3 (fun _ _ _ h => (h : False).elim) (Or.inl ⟨by kernel_rfl, ?_⟩) zq9 ?_; rotate_left; (intro w' hSw; (try dsimp only at hSw); go_simp; (first | done | with_reducible rfl)); simp only [Act.put, zS, zT, zU, List.getElem_toArray, List.getElem_cons_zero, List.getElem_cons_succ]
       refine wpAnyH_done zq3 ?_ _
       refine NoPanic.normal ?_
       have BV := Lib.hid (BW.out.trans ((B5.out.trans (hS1.2.2.2.mono B5.out.size)).mono BW.out.size))
       clear hS1 x0 x1 x2
       go_wp2
       go_ret
       exact ⟨rfl, BV.out⟩
      | true =>
       have H := HH.out
       rw [if_pos rfl] at H
       clear HH
       by_cases hp : (i : Int) > 0
       ·
        obtain ⟨m, hm⟩ : ∃ m : Nat, i = m + 1 := ⟨i - 1, by omega⟩
        have hws : wrap64 ((i : Int) - 1) = (m : Int) := (YtkjgnnhpjcofiaaGreatDoorX.wrap_in zq7 zq7).trans zq7
        have hwi : IntKind.i64.wrap ((i : Int) - 1) = (m : Int) := (i64_w _).trans hws
        have hp0 : 0 < i := by omega
        have hp1 : decide ((0 : Int) < (i : Int)) = true := decide_eq_true hp
        have hm0 : (0 : Int) ≤ (m : Int) := Int.natCast_nonneg m
        have hml : (m : Int) < (l0.length : Int) := by omega
        obtain ⟨a3, e3, r0, _, _⟩ := at_T118 (Kd.C_below HR.out (BW.out.trans (B5.out.mono BW.out.size))) (m : Int) hm0 hml
        obtain rfl : ad = a3 := Option.some.inj e3
        rw [Int.toNat_natCast] at r0
        rw [if_pos hp, hws, if_pos hm0, if_pos hml] at H
        generalize rd_T118 l0 (m : Int) = y at r0 H
        have HM := Lib.hid hm
        clear hws hm e3
        cases hl : Op.bytesLess y.f0.toList x.f0.toList with
        | true =>
         rw [hl, if_pos rfl, HW.out] at H
         have H7 := Lib.hid H
         clear H
         refine wp_region_noPanic ?_
         refine wp_region_held_drew (S := fun w' => w'.cell? ⟨ge, 0, none⟩ = some (.string x.f0) ∧ w'.cell? (ad.add (m * 3)) = some (.string y.f0) ∧ w'.cell? ⟨ge, 2, none⟩ = some (.string x.f2) ∧ Below w6.heap.size w6 w') zq3 ⟨x0, r0, x2, zD (Below.refl _ _)⟩ ?_
         intro hS0
         generalize hLL : Array.replicate _ false = lst
         obtain rfl : lst = #[zF,zF,zF,zF,zF,zF,zF,zF,zF,zF,zF,zF,zF,zF,zF,zF,zF,zF,zF,zF] := hLL.symm.trans zq3
         clear hLL
         refine wpAnyH_take (i := 0) (v := ?_) rfl zq3 zq3 zq3 (fun _ _ _ h => (h : False).elim) (Or.inl ⟨by kernel_rfl, ?_⟩) zq9 ?_; rotate_left; (intro w' hSw; (try dsimp only at hSw); go_simp; (first | done | with_reducible rfl)); simp only [Act.put, zS, zT, zU, List.getElem_toArray, List.getElem_cons_zero, List.getElem_cons_succ]
         refine wpAnyH_take (i := 1) (v := ?_) rfl zq3 zq3 zq3 (fun _ _ _ h => (h : False).elim) (Or.inl ⟨by kernel_rfl, ?_⟩) zq9 ?_; rotate_left; (intro w' hSw; (try dsimp only at hSw); go_simp; (first | done | with_reducible rfl)); simp only [Act.put, zS, zT, zU, List.getElem_toArray, List.getElem_cons_zero, List.getElem_cons_succ]
         refine wpAnyH_take (i := 2) (v := ?_) rfl zq3 zq3 zq3 (fun _ _ _ h => (h : False).elim) (Or.inl ⟨by kernel_rfl, ?_⟩) zq9 ?_; rotate_left; (intro w' hSw; (try dsimp only at hSw); go_simp; (first | done | with_reducible rfl)); simp only [Act.put, zS, zT, zU, List.getElem_toArray, List.getElem_cons_zero, List.getElem_cons_succ]
         refine wpAnyH_ready (rs := [3]) zq3 zq16 ?_
         refine AllReadyH.cons rfl (fun K hK => ?_) AllReadyH.nil
         go_simp
         refine (HIS.out _).mono ?_
         rintro e V ⟨rfl, hv⟩
         refine hK.out _ _ (X.keepO hS0 hv.below) (fun hS1 => ?_)
         clear hK hS0 hv
         try simp only [Act.put, zS, zT, zU, List.getElem_toArray, List.getElem_cons_zero, List.getElem_cons_succ]
         refine wpAnyH_take (i := 4) (v := ?_) rfl zq3 zq3 zq3 (fun _ _ _ h => (h : False).elim) (Or.inl ⟨by kernel_rfl, ?_⟩) zq9 ?_; rotate_left; (intro w' hSw; (try dsimp only at hSw); go_simp; (first | done | with_reducible rfl)); simp only [Act.put, zS, zT, zU, List.getElem_toArray, List.getElem_cons_zero, List.getElem_cons_succ]
         refine wpAnyH_take (i := 5) (v := ?_) rfl zq3 zq3 zq3 (fun _ _ _ h => (h : False).elim) (Or.inl ⟨by kernel_rfl, ?_⟩) zq9 ?_; rotate_left; (intro w' hSw; (try dsimp only at hSw); go_simp; (first | done | with_reducible rfl)); simp only [Act.put, zS, zT, zU, List.getElem_toArray, List.getElem_cons_zero, List.getElem_cons_succ]
         refine wpAnyH_take (i := 6) (v := ?_) rfl zq3 zq3 zq3 (fun _ _ _ h => (h : False).elim) (Or.inl ⟨by kernel_rfl, ?_⟩) zq9 ?_; rotate_left; (intro w' hSw; (try dsimp only at hSw); go_simp; (first | done | with_reducible rfl)); simp only [Act.put, zS, zT, zU, List.getElem_toArray, List.getElem_cons_zero, List.getElem_cons_succ]
         refine wpAnyH_take (i := 7) (v := ?_) rfl zq3 zq3 zq3 (fun _ _ _ h => (h : False).elim) (Or.inl ⟨by kernel_rfl, ?_⟩) zq9 ?_; rotate_left; (intro w' hSw; (try dsimp only at hSw); go_simp; (first | done | with_reducible rfl)); simp only [Act.put, zS, zT, zU, List.getElem_toArray, List.getElem_cons_zero, List.getElem_cons_succ]
         refine wpAnyH_take (i := 8) (v := ?_) rfl zq3 zq3 zq3 (fun _ _ _ h => (h : False).elim) (Or.inl ⟨by kernel_rfl, ?_⟩) zq9 ?_; rotate_left; (intro w' hSw; (try dsimp only at hSw); go_simp; (first | done | with_reducible rfl)); simp only [Act.put, zS, zT, zU, List.getElem_toArray, List.getElem_cons_zero, List.getElem_cons_succ]
         refine wpAnyH_take (i := 9) (v := ?_) rfl zq3 zq3 zq3 (fun _ _ _ h => (h : False).elim) (Or.inl ⟨by kernel_rfl, ?_⟩) zq9 ?_; rotate_left; (intro w' hSw; (try dsimp only at hSw); go_simp; (first | done | with_reducible rfl)); simp only [Act.put, zS, zT, zU, List.getElem_toArray, List.getElem_cons_zero, List.getElem_cons_succ]
         refine wpAnyH_take (i := 10) (v := ?_) rfl zq3 zq3 zq3 (fun _ _ _ h => (h : False).elim) (Or.inl ⟨by kernel_rfl, ?_⟩) zq9 ?_; rotate_left; (intro w' hSw; (try dsimp only at hSw); go_simp; (first | done | with_reducible rfl)); simp only [Act.put, zS, zT, zU, List.getElem_toArray, List.getElem_cons_zero, List.getElem_cons_succ]
         refine wpAnyH_take (i := 11) (v := ?_) rfl zq3 zq3 zq3 (fun _ _ _ h => (h : False).elim) (Or.inl ⟨by kernel_rfl, ?_⟩) zq9 ?_; rotate_left; (intro w' hSw; (try dsimp only at hSw); go_simp; (first | done | with_reducible rfl)); simp only [Act.put, zS, zT, zU, List.getElem_toArray, List.getElem_cons_zero, List.getElem_cons_succ]
         refine wpAnyH_take (i := 12) (v := ?_) rfl zq3 zq3 zq3 (fun _ _ _ h => (h : False).elim) (Or.inl ⟨by kernel_rfl, ?_⟩) zq9 ?_; rotate_left; (intro w' hSw; (try dsimp only at hSw); go_simp; (first | done | with_reducible rfl)); simp only [Act.put, zS, zT, zU, List.getElem_toArray, List.getElem_cons_zero, List.getElem_cons_succ]
         refine wpAnyH_take (i := 13) (v := ?_) rfl zq3 zq3 zq3 (fun _ _ _ h => (h : False).elim) (Or.inl ⟨by kernel_rfl, ?_⟩) zq9 ?_; rotate_left; (intro w' hSw; (try dsimp only at hSw); go_simp; (first | done | with_reducible rfl)); simp only [Act.put, zS, zT, zU, List.getElem_toArray, List.getElem_cons_zero, List.getElem_cons_succ]
         refine wpAnyH_take (i := 14) (v := ?_) rfl zq3 zq3 zq3 (fun _ _ _ h => (h : False).elim) (Or.inl ⟨by kernel_rfl, ?_⟩) zq9 ?_; rotate_left; (intro w' hSw; (try dsimp only at hSw); go_simp; (first | done | with_reducible rfl)); simp only [Act.put, zS, zT, zU, List.getElem_toArray, List.getElem_cons_zero, List.getElem_cons_succ]
         refine wpAnyH_take (i := 15) (v := ?_) rfl zq3 zq3 zq3 (fun _ _ _ h => (h : False).elim) (Or.inl ⟨by kernel_rfl, ?_⟩) zq9 ?_; rotate_left; (intro w' hSw; (try dsimp only at hSw); go_simp; (first | done | with_reducible rfl)); simp only [Act.put, zS, zT, zU, List.getElem_toArray, List.getElem_cons_zero, List.getElem_cons_succ]
         refine wpAnyH_take (i := 16) (v := ?_) rfl zq3 zq3 zq3 (fun _ _ _ h => (h : False).elim) (Or.inl ⟨by kernel_rfl, ?_⟩) zq9 ?_; rotate_left; (intro w' hSw; (try dsimp only at hSw); go_simp; (first | done | with_reducible rfl)); simp only [Act.put, zS, zT, zU, List.getElem_toArray, List.getElem_cons_zero, List.getElem_cons_succ]
         refine wpAnyH_take (i := 17) (v := ?_) rfl zq3 zq3 zq3 (fun _ _ _ h => (h : False).elim) (Or.inl ⟨by kernel_rfl, ?_⟩) zq9 ?_; rotate_left; (intro w' hSw; (try dsimp only at hSw); go_simp; (first | done | with_reducible rfl)); simp only [Act.put, zS, zT, zU, List.getElem_toArray, List.getElem_cons_zero, List.getElem_cons_succ]
         refine wpAnyH_take (i := 18) (v := ?_) rfl zq3 zq3 zq3 (fun _ _ _ h => (h : False).elim) (Or.inl ⟨by kernel_rfl, ?_⟩) zq9 ?_; rotate_left; (intro w' hSw; (try dsimp only at hSw); go_simp; (first | done | with_reducible rfl)); simp only [Act.put, zS, zT, zU, List.getElem_toArray, List.getElem_cons_zero, List.getElem_cons_succ]
         refine wpAnyH_take (i := 19) (v := ?_) rfl zq3 zq3 zq3 (fun _ _ _ h => (h : False).elim) (Or.inl ⟨by kernel_rfl, ?_⟩) zq9 ?_; rotate_left; (intro w' hSw; (try dsimp only at hSw); go_simp; (first | done | with_reducible rfl)); simp only [Act.put, zS, zT, zU, List.getElem_toArray, List.getElem_cons_zero, List.getElem_cons_succ]
         refine wpAnyH_done zq3 ?_ _
         refine NoPanic.normal ?_
         have BV := Lib.hid (BW.out.trans ((B5.out.trans (hS1.2.2.2.mono B5.out.size)).mono BW.out.size))
         clear hS1 x0 x1 x2 r0
         go_wp2
         go_roundg k1
         case measure => omega
         case rel => exact ⟨i + 1, by go_num, by omega, H7.out, BV.out⟩
        | false =>
         rw [hl, if_neg zq13] at H
         obtain rfl := Option.some.inj H
         clear H
         refine wp_region_noPanic ?_
         refine wp_region_held_drew (S := fun w' => w'.cell? ⟨ge, 0, none⟩ = some (.string x.f0) ∧ w'.cell? (ad.add (m * 3)) = some (.string y.f0) ∧ w'.cell? ⟨ge, 2, none⟩ = some (.string x.f2) ∧ Below w6.heap.size w6 w') zq3 ⟨x0, r0, x2, zD (Below.refl _ _)⟩ ?_
         intro hS0
         generalize hLL : Array.replicate _ false = lst
         obtain rfl : lst = #[zF,zF,zF,zF,zF,zF,zF,zF,zF,zF,zF,zF,zF,zF,zF,zF,zF,zF,zF,zF] := hLL.symm.trans zq3
         clear hLL
         refine wpAnyH_take (i := 0) (v := ?_) rfl zq3 zq3 zq3 (fun _ _ _ h => (h : False).elim) (Or.inl ⟨by kernel_rfl, ?_⟩) zq9 ?_; rotate_left; (intro w' hSw; (try dsimp only at hSw); go_simp; (first | done | with_reducible rfl)); simp only [Act.put, zS, zT, zU, List.getElem_toArray, List.getElem_cons_zero, List.getElem_cons_succ]
         refine wpAnyH_take (i := 1) (v := ?_) rfl zq3 zq3 zq3 (fun _ _ _ h => (h : False).elim) (Or.inl ⟨by kernel_rfl, ?_⟩) zq9 ?_; rotate_left; (intro w' hSw; (try dsimp only at hSw); go_simp; (first | done | with_reducible rfl)); simp only [Act.put, zS, zT, zU, List.getElem_toArray, List.getElem_cons_zero, List.getElem_cons_succ]
         refine wpAnyH_take (i := 2) (v := ?_) rfl zq3 zq3 zq3 (fun _ _ _ h => (h : False).elim) (Or.inl ⟨by kernel_rfl, ?_⟩) zq9 ?_; rotate_left; (intro w' hSw; (try dsimp only at hSw); go_simp; (first | done | with_reducible rfl)); simp only [Act.put, zS, zT, zU, List.getElem_toArray, List.getElem_cons_zero, List.getElem_cons_succ]
         refine wpAnyH_ready (rs := [3]) zq3 zq16 ?_
         refine AllReadyH.cons rfl (fun K hK => ?_) AllReadyH.nil
         go_simp
         refine (HIS.out _).mono ?_
         rintro e V ⟨rfl, hv⟩
         refine hK.out _ _ (X.keepO hS0 hv.below) (fun hS1 => ?_)
         clear hK hS0 hv
         try simp only [Act.put, zS, zT, zU, List.getElem_toArray, List.getElem_cons_zero, List.getElem_cons_succ]
         refine wpAnyH_take (i := 4) (v := ?_) rfl zq3 zq3 zq3 (fun _ _ _ h => (h : False).elim) (Or.inl ⟨by kernel_rfl, ?_⟩) zq9 ?_; rotate_left; (intro w' hSw; (try dsimp only at hSw); go_simp; (first | done | with_reducible rfl)); simp only [Act.put, zS, zT, zU, List.getElem_toArray, List.getElem_cons_zero, List.getElem_cons_succ]
         refine wpAnyH_take (i := 5) (v := ?_) rfl zq3 zq3 zq3 (fun _ _ _ h => (h : False).elim) (Or.inl ⟨by kernel_rfl, ?_⟩) zq9 ?_; rotate_left; (intro w' hSw; (try dsimp only at hSw); go_simp; (first | done | with_reducible rfl)); simp only [Act.put, zS, zT, zU, List.getElem_toArray, List.getElem_cons_zero, List.getElem_cons_succ]
         refine wpAnyH_take (i := 6) (v := ?_) rfl zq3 zq3 zq3 (fun _ _ _ h => (h : False).elim) (Or.inl ⟨by kernel_rfl, ?_⟩) zq9 ?_; rotate_left; (intro w' hSw; (try dsimp only at hSw); go_simp; (first | done | with_reducible rfl)); simp only [Act.put, zS, zT, zU, List.getElem_toArray, List.getElem_cons_zero, List.getElem_cons_succ]
         refine wpAnyH_take (i := 7) (v := ?_) rfl zq3 zq3 zq3 (fun _ _ _ h => (h : False).elim) (Or.inl ⟨by kernel_rfl, ?_⟩) zq9 ?_; rotate_left; (intro w' hSw; (try dsimp only at hSw); go_simp; (first | done | with_reducible rfl)); simp only [Act.put, zS, zT, zU, List.getElem_toArray, List.getElem_cons_zero, List.getElem_cons_succ]
         refine wpAnyH_take (i := 8) (v := ?_) rfl zq3 zq3 zq3 (fun _ _ _ h => (h : False).elim) (Or.inl ⟨by kernel_rfl, ?_⟩) zq9 ?_; rotate_left; (intro w' hSw; (try dsimp only at hSw); go_simp; (first | done | with_reducible rfl)); simp only [Act.put, zS, zT, zU, List.getElem_toArray, List.getElem_cons_zero, List.getElem_cons_succ]
         refine wpAnyH_take (i := 9) (v := ?_) rfl zq3 zq3 zq3 (fun _ _ _ h => (h : False).elim) (Or.inl ⟨by kernel_rfl, ?_⟩) zq9 ?_; rotate_left; (intro w' hSw; (try dsimp only at hSw); go_simp; (first | done | with_reducible rfl)); simp only [Act.put, zS, zT, zU, List.getElem_toArray, List.getElem_cons_zero, List.getElem_cons_succ]
         refine wpAnyH_take (i := 10) (v := ?_) rfl zq3 zq3 zq3 (fun _ _ _ h => (h : False).elim) (Or.inl ⟨by kernel_rfl, ?_⟩) zq9 ?_; rotate_left; (intro w' hSw; (try dsimp only at hSw); go_simp; (first | done | with_reducible rfl)); simp only [Act.put, zS, zT, zU, List.getElem_toArray, List.getElem_cons_zero, List.getElem_cons_succ]
         refine wpAnyH_take (i := 11) (v := ?_) rfl zq3 zq3 zq3 (fun _ _ _ h => (h : False).elim) (Or.inl ⟨by kernel_rfl, ?_⟩) zq9 ?_; rotate_left; (intro w' hSw; (try dsimp only at hSw); go_simp; (first | done | with_reducible rfl)); simp only [Act.put, zS, zT, zU, List.getElem_toArray, List.getElem_cons_zero, List.getElem_cons_succ]
         refine wpAnyH_take (i := 12) (v := ?_) rfl zq3 zq3 zq3 (fun _ _ _ h => (h : False).elim) (Or.inl ⟨by kernel_rfl, ?_⟩) zq9 ?_; rotate_left; (intro w' hSw; (try dsimp only at hSw); go_simp; (first | done | with_reducible rfl)); simp only [Act.put, zS, zT, zU, List.getElem_toArray, List.getElem_cons_zero, List.getElem_cons_succ]
         refine wpAnyH_take (i := 13) (v := ?_) rfl zq3 zq3 zq3 (fun _ _ _ h => (h : False).elim) (Or.inl ⟨by kernel_rfl, ?_⟩) zq9 ?_; rotate_left; (intro w' hSw; (try dsimp only at hSw); go_simp; (first | done | with_reducible rfl)); simp only [Act.put, zS, zT, zU, List.getElem_toArray, List.getElem_cons_zero, List.getElem_cons_succ]
         refine wpAnyH_take (i := 14) (v := ?_) rfl zq3 zq3 zq3 (fun _ _ _ h => (h : False).elim) (Or.inl ⟨by kernel_rfl, ?_⟩) zq9 ?_; rotate_left; (intro w' hSw; (try dsimp only at hSw); go_simp; (first | done | with_reducible rfl)); simp only [Act.put, zS, zT, zU, List.getElem_toArray, List.getElem_cons_zero, List.getElem_cons_succ]
         refine wpAnyH_take (i := 15) (v := ?_) rfl zq3 zq3 zq3 (fun _ _ _ h => (h : False).elim) (Or.inl ⟨by kernel_rfl, ?_⟩) zq9 ?_; rotate_left; (intro w' hSw; (try dsimp only at hSw); go_simp; (first | done | with_reducible rfl)); simp only [Act.put, zS, zT, zU, List.getElem_toArray, List.getElem_cons_zero, List.getElem_cons_succ]
         refine wpAnyH_take (i := 16) (v := ?_) rfl zq3 zq3 zq3 (fun _ _ _ h => (h : False).elim) (Or.inl ⟨by kernel_rfl, ?_⟩) zq9 ?_; rotate_left; (intro w' hSw; (try dsimp only at hSw); go_simp; (first | done | with_reducible rfl)); simp only [Act.put, zS, zT, zU, List.getElem_toArray, List.getElem_cons_zero, List.getElem_cons_succ]
         refine wpAnyH_take (i := 17) (v := ?_) rfl zq3 zq3 zq3 (fun _ _ _ h => (h : False).elim) (Or.inl ⟨by kernel_rfl, ?_⟩) zq9 ?_; rotate_left; (intro w' hSw; (try dsimp only at hSw); go_simp; (first | done | with_reducible rfl)); simp only [Act.put, zS, zT, zU, List.getElem_toArray, List.getElem_cons_zero, List.getElem_cons_succ]
         refine wpAnyH_take (i := 18) (v := ?_) rfl zq3 zq3 zq3 (fun _ _ _ h => (h : False).elim) (Or.inl ⟨by kernel_rfl, ?_⟩) zq9 ?_; rotate_left; (intro w' hSw; (try dsimp only at hSw); go_simp; (first | done | with_reducible rfl)); simp only [Act.put, zS, zT, zU, List.getElem_toArray, List.getElem_cons_zero, List.getElem_cons_succ]
         refine wpAnyH_take (i := 19) (v := ?_) rfl zq3 zq3 zq3 (fun _ _ _ h => (h : False).elim) (Or.inl ⟨by kernel_rfl, ?_⟩) zq9 ?_; rotate_left; (intro w' hSw; (try dsimp only at hSw); go_simp; (first | done | with_reducible rfl)); simp only [Act.put, zS, zT, zU, List.getElem_toArray, List.getElem_cons_zero, List.getElem_cons_succ]
         refine wpAnyH_done zq3 ?_ _
         refine NoPanic.normal ?_
         have BV := Lib.hid (BW.out.trans ((B5.out.trans (hS1.2.2.2.mono B5.out.size)).mono BW.out.size))
         clear hS1 x0 x1 x2 r0
         go_wp2
         go_ret
         exact ⟨rfl, BV.out⟩
       ·
        rw [if_neg hp, HW.out] at H
        have hp1 : decide ((0 : Int) < (i : Int)) = false := decide_eq_false hp
        have hp0 : ¬ 0 < i := by omega
        have hp2 : decide (0 < i) = false := decide_eq_false hp0
        have H7 := Lib.hid H
        clear H
        refine wp_region_noPanic ?_
        refine wp_region_held_drew (S := fun w' => w'.cell? ⟨ge, 0, none⟩ = some (.string x.f0) ∧ w'.cell? (⟨ge, 1, none⟩) = some (.int .i64 x.f1) ∧ w'.cell? ⟨ge, 2, none⟩ = some (.string x.f2) ∧ Below w6.heap.size w6 w') zq3 ⟨x0, x1, x2, zD (Below.refl _ _)⟩ ?_
        intro hS0
        generalize hLL : Array.replicate _ false = lst
        obtain rfl : lst = #[zF,zF,zF,zF,zF,zF,zF,zF,zF,zF,zF,zF,zF,zF,zF,zF,zF,zF,zF,zF] := hLL.symm.trans zq3
        clear hLL
        refine wpAnyH_take (i := 0) (v := ?_) rfl zq3 zq3 zq3 (fun _ _ _ h => (h : False).elim) (Or.inl ⟨by kernel_rfl, ?_⟩) zq9 ?_; rotate_left; (intro w' hSw; (try dsimp only at hSw); go_simp; (first | done | with_reducible rfl)); simp only [Act.put, zS, zT, zU, List.getElem_toArray, List.getElem_cons_zero, List.getElem_cons_succ]
        refine wpAnyH_take (i := 1) (v := ?_) rfl zq3 zq3 zq3 (fun _ _ _ h => (h : False).elim) (Or.inl ⟨by kernel_rfl, ?_⟩) zq9 ?_; rotate_left; (intro w' hSw; (try dsimp only at hSw); go_simp; (first | done | with_reducible rfl)); simp only [Act.put, zS, zT, zU, List.getElem_toArray, List.getElem_cons_zero, List.getElem_cons_succ]
        refine wpAnyH_take (i := 2) (v := ?_) rfl zq3 zq3 zq3 (fun _ _ _ h => (h : False).elim) (Or.inl ⟨by kernel_rfl, ?_⟩) zq9 ?_; rotate_left; (intro w' hSw; (try dsimp only at hSw); go_simp; (first | done | with_reducible rfl)); simp only [Act.put, zS, zT, zU, List.getElem_toArray, List.getElem_cons_zero, List.getElem_cons_succ]
        refine wpAnyH_ready (rs := [3]) zq3 zq16 ?_
        refine AllReadyH.cons rfl (fun K hK => ?_) AllReadyH.nil
        go_simp
        refine (HIS.out _).mono ?_
        rintro e V ⟨rfl, hv⟩
        refine hK.out _ _ (X.keepO hS0 hv.below) (fun hS1 => ?_)
        clear hK hS0 hv
        try simp only [Act.put, zS, zT, zU, List.getElem_toArray, List.getElem_cons_zero, List.getElem_cons_succ]
        refine wpAnyH_take (i := 4) (v := ?_) rfl zq3 zq3 zq3 (fun _ _ _ h => (h : False).elim) (Or.inl ⟨by kernel_rfl, ?_⟩) zq9 ?_; rotate_left; (intro w' hSw; (try dsimp only at hSw); go_simp; (first | done | with_reducible rfl)); simp only [Act.put, zS, zT, zU, List.getElem_toArray, List.getElem_cons_zero, List.getElem_cons_succ]
        refine wpAnyH_take (i := 5) (v := ?_) rfl zq3 zq3 zq3 (fun _ _ _ h => (h : False).elim) (Or.inl ⟨by kernel_rfl, ?_⟩) zq9 ?_; rotate_left; (intro w' hSw; (try dsimp only at hSw); go_simp; (first | done | with_reducible rfl)); simp only [Act.put, zS, zT, zU, List.getElem_toArray, List.getElem_cons_zero, List.getElem_cons_succ]
        refine wpAnyH_take (i := 6) (v := ?_) rfl zq3 zq3 zq3 (fun _ _ _ h => (h : False).elim) (Or.inl ⟨by kernel_rfl, ?_⟩) zq9 ?_; rotate_left; (intro w' hSw; (try dsimp only at hSw); go_simp; (first | done | with_reducible rfl)); simp only [Act.put, zS, zT, zU, List.getElem_toArray, List.getElem_cons_zero, List.getElem_cons_succ]
        refine wpAnyH_take (i := 7) (v := ?_) rfl zq3 zq3 zq3 (fun _ _ _ h => (h : False).elim) (Or.inl ⟨by kernel_rfl, ?_⟩) zq9 ?_; rotate_left; (intro w' hSw; (try dsimp only at hSw); go_simp; (first | done | with_reducible rfl)); simp only [Act.put, zS, zT, zU, List.getElem_toArray, List.getElem_cons_zero, List.getElem_cons_succ]
        refine wpAnyH_take (i := 8) (v := ?_) rfl zq3 zq3 zq3 (fun _ _ _ h => (h : False).elim) (Or.inl ⟨by kernel_rfl, ?_⟩) zq9 ?_; rotate_left; (intro w' hSw; (try dsimp only at hSw); go_simp; (first | done | with_reducible rfl)); simp only [Act.put, zS, zT, zU, List.getElem_toArray, List.getElem_cons_zero, List.getElem_cons_succ]
        refine wpAnyH_take (i := 9) (v := undef) rfl zq3 zq3 zq3 (fun _ _ _ h => (h : False).elim) (Or.inr ⟨by kernel_rfl, rfl⟩) zq9 ?_; simp only [Act.put, zS, zT, zU, List.getElem_toArray, List.getElem_cons_zero, List.getElem_cons_succ]
        refine wpAnyH_take (i := 10) (v := undef) rfl zq3 zq3 zq3 (fun _ _ _ h => (h : False).elim) (Or.inr ⟨by kernel_rfl, rfl⟩) zq9 ?_; simp only [Act.put, zS, zT, zU, List.getElem_toArray, List.getElem_cons_zero, List.getElem_cons_succ]
        refine wpAnyH_take (i := 11) (v := undef) rfl zq3 zq3 zq3 (fun _ _ _ h => (h : False).elim) (Or.inr ⟨by kernel_rfl, rfl⟩) zq9 ?_; simp only [Act.put, zS, zT, zU, List.getElem_toArray, List.getElem_cons_zero, List.getElem_cons_succ]
        refine wpAnyH_take (i := 12) (v := undef) rfl zq3 zq3 zq3 (fun _ _ _ h => (h : False).elim) (Or.inr ⟨by kernel_rfl, rfl⟩) zq9 ?_; simp only [Act.put, zS, zT, zU, List.getElem_toArray, List.getElem_cons_zero, List.getElem_cons_succ]
        refine wpAnyH_take (i := 13) (v := undef) rfl zq3 zq3 zq3 (fun _ _ _ h => (h : False).elim) (Or.inr ⟨by kernel_rfl, rfl⟩) zq9 ?_; simp only [Act.put, zS, zT, zU, List.getElem_toArray, List.getElem_cons_zero, List.getElem_cons_succ]
        refine wpAnyH_take (i := 14) (v := undef) rfl zq3 zq3 zq3 (fun _ _ _ h => (h : False).elim) (Or.inr ⟨by kernel_rfl, rfl⟩) zq9 ?_; simp only [Act.put, zS, zT, zU, List.getElem_toArray, List.getElem_cons_zero, List.getElem_cons_succ]
        refine wpAnyH_take (i := 15) (v := undef) rfl zq3 zq3 zq3 (fun _ _ _ h => (h : False).elim) (Or.inr ⟨by kernel_rfl, rfl⟩) zq9 ?_; simp only [Act.put, zS, zT, zU, List.getElem_toArray, List.getElem_cons_zero, List.getElem_cons_succ]
        refine wpAnyH_take (i := 16) (v := undef) rfl zq3 zq3 zq3 (fun _ _ _ h => (h : False).elim) (Or.inr ⟨by kernel_rfl, rfl⟩) zq9 ?_; simp only [Act.put, zS, zT, zU, List.getElem_toArray, List.getElem_cons_zero, List.getElem_cons_succ]
        refine wpAnyH_take (i := 17) (v := undef) rfl zq3 zq3 zq3 (fun _ _ _ h => (h : False).elim) (Or.inr ⟨by kernel_rfl, rfl⟩) zq9 ?_; simp only [Act.put, zS, zT, zU, List.getElem_toArray, List.getElem_cons_zero, List.getElem_cons_succ]
        refine wpAnyH_take (i := 18) (v := ?_) rfl zq3 zq3 zq3 (fun _ _ _ h => (h : False).elim) (Or.inl ⟨by kernel_rfl, ?_⟩) zq9 ?_; rotate_left; (intro w' hSw; (try dsimp only at hSw); go_simp; (first | done | with_reducible rfl)); simp only [Act.put, zS, zT, zU, List.getElem_toArray, List.getElem_cons_zero, List.getElem_cons_succ]
        refine wpAnyH_take (i := 19) (v := ?_) rfl zq3 zq3 zq3 (fun _ _ _ h => (h : False).elim) (Or.inl ⟨by kernel_rfl, ?_⟩) zq9 ?_; rotate_left; (intro w' hSw; (try dsimp only at hSw); go_simp; (first | done | with_reducible rfl)); simp only [Act.put, zS, zT, zU, List.getElem_toArray, List.getElem_cons_zero, List.getElem_cons_succ]
        refine wpAnyH_done zq3 ?_ _
        refine NoPanic.normal ?_
        have BV := Lib.hid (BW.out.trans ((B5.out.trans (hS1.2.2.2.mono B5.out.size)).mono BW.out.size))
        clear hS1 x0 x1 x2
        go_wp2
        go_roundg k1
        case measure => omega
        case rel => exact ⟨i + 1, by go_num, by omega, H7.out, BV.out⟩)
   rw [if_neg c3] at H
   obtain ⟨s, A1, H⟩ := Option.bind_eq_some_iff.mp H
   obtain ⟨t, A2, H⟩ := Option.bind_eq_some_iff.mp H
   obtain rfl := Option.some.inj H
   have HT1 := Lib.hid (fun (W : World) (hW : Below w.heap.size w W) => spec_l6Tree.calls k1 A0 c0 l0 s W (Kd.C_below HR.out hW) HC0.out A1)
   have HT2 := Lib.hid (fun W => spec_TextFault.calls k1 s t W A2)
   clear H A1 A2
   go_wp2_with (first | (go_at_call 87; (with_reducible refine (HT1.out wq BW.out).mono ?_); rintro e w5 ⟨rfl, hb⟩; have B5 := Lib.hid hb; clear hb) | (go_at_call 118; (with_reducible refine (HT2.out w5).mono ?_); rintro e w6 ⟨rfl, hb⟩; have B6 := Lib.hid hb; clear hb))
   go_ret
   exact ⟨rfl, BW.out.trans ((B5.out.trans (B6.out.mono B5.out.size)).mono BW.out.size)⟩
mutual
def spec_l6Untree.l0 : Nat → List (S118) → List ByteArray → Int → Option ((List (S118)) × Bool)
 | 0, _, _, _ => none
 | k + 1, x4, x5, x6 => if x6 < (x5.length : Int) then (if 0 ≤ x6 then ((spec_l6Unline.f (rdOf ByteArray.empty x5 x6)).bind fun bt157 => ((spec_l6Split.f k bt157.1).bind fun t159 => (if bt157.2 = true then (spec_l6Untree.j1 k x4 x5 x6 t159 ((t159.length : Int) != 3)) else (spec_l6Untree.j1 k x4 x5 x6 t159 true)))) else (none)) else ((spec_TreeFault.f k x4).bind fun t155 => (some (x4, (t155 == 0))))
def spec_l6Untree.j1 : Nat → List (S118) → List ByteArray → Int → List ByteArray → Bool → Option ((List (S118)) × Bool)
 | 0, _, _, _, _, _ => none
 | k + 1, x4, x5, x6, x9, x37 => if x37 = true then (some (([] : List (S118)), false)) else (if 2 < (x9.length : Int) then (if 1 < (x9.length : Int) then (spec_l6Untree.l1 k x4 x5 x6 x9 1 (rdOf ByteArray.empty x9 2) 0 (rdOf ByteArray.empty x9 1)) else (none)) else (none))
def spec_l6Untree.l1 : Nat → List (S118) → List ByteArray → Int → List ByteArray → Int → ByteArray → Int → ByteArray → Option ((List (S118)) × Bool)
 | 0, _, _, _, _, _, _, _, _ => none
 | k + 1, x4, x5, x6, x9, x11, x165000, x165001, x165002 => if x11 < 4 then ((spec_l6Words.f).bind fun t165 => (if 0 ≤ x11 then (if x11 < (t165.length : Int) then (if 0 < (x9.length : Int) then (if (rdOf ByteArray.empty t165 x11).toList = (rdOf ByteArray.empty x9 0).toList then (spec_l6Untree.l1 k x4 x5 x6 x9 (wrap64 (x11 + 1)) x165000 x11 x165002) else (spec_l6Untree.l1 k x4 x5 x6 x9 (wrap64 (x11 + 1)) x165000 x165001 x165002)) else (none)) else (none)) else (none))) else (if x4.length < 3518437208883 then (spec_l6Untree.l0 k (x4 ++ [(⟨x165000, x165001, x165002⟩ : S118)]) x5 (wrap64 (x6 + 1))) else (none))
end
def spec_l6Untree.f (k : Nat) (a0 : ByteArray) : Option ((List (S118)) × Bool) := (spec_l1Split.f k a0).bind fun t152 => (spec_l6Untree.l0 k (([] : List (S118))) t152 0)
def spec_l6Untree.T10 : Bool × List (List Nat × List Nat) := (true, [([], []), ([0], [0]), ([1], [1]), ([], []), ([3], [3]), ([4], [4]), ([2, 5], [2, 5]), ([], []), ([7, 6, 0, 1, 2, 3, 4, 5, 6, 7], [6, 7])])
def spec_l6Untree.B10 : List Nat := [0, 1, 3, 0, 8, 24, 63, 0, 255]
theorem spec_l6Untree.tab10 : rtab .any (opsOf Tryz.f120 10) = spec_l6Untree.T10 := by kernel_rfl
theorem spec_l6Untree.bits10 : waitsOk spec_l6Untree.T10.2 spec_l6Untree.B10 = true := by kernel_rfl
def spec_l6Untree.T14 : Bool × List (List Nat × List Nat) := (true, [([], []), ([], []), ([0, 1], [0, 1]), ([2], [2]), ([], []), ([4], [4]), ([5], [5]), ([3, 6], [3, 6])])
def spec_l6Untree.B14 : List Nat := [0, 0, 3, 7, 0, 16, 48, 127]
theorem spec_l6Untree.tab14 : rtab .any (opsOf Tryz.f120 14) = spec_l6Untree.T14 := by kernel_rfl
theorem spec_l6Untree.bits14 : waitsOk spec_l6Untree.T14.2 spec_l6Untree.B14 = true := by kernel_rfl
set_option maxHeartbeats 8000000 in
set_option maxRecDepth 100000 in
theorem spec_l6Untree.calls (k : Nat) (a0 : ByteArray) (r1 : List (S118)) (r2 : Bool) (w : World) (h : spec_l6Untree.f k a0 = some (r1, r2)) :
  Calls Tryz.prog 120 #[.string a0] w fun e w' => ∃ v0_ : Value, e = .returned (.tuple #[v0_, .bool r2]) ∧ Kd.R k118 118 w' w.heap.size (fun _ => True) v0_ r1 ∧ Below w.heap.size w w' := by
 have hu118 := Tryz.underlying118
 have HB := zK (Below.refl w.heap.size w)
 have H : ((spec_l1Split.f k a0).bind fun t152 => (spec_l6Untree.l0 k (([] : List (S118))) t152 0)) = some (r1, r2) := h
 clear h
 obtain ⟨y149, hy149⟩ : ∃ y_ : List (S118), y_ = (([] : List (S118))) := ⟨_, rfl⟩
 replace H : ((spec_l1Split.f k a0).bind fun t152 => (spec_l6Untree.l0 k y149 t152 0)) = some (r1, r2) := by first | (rw [hy149]; with_reducible exact H) | (have H2_ := (Option.bind_some _ _).symm.trans H; rw [hy149]; with_reducible exact H2_) | (have H2_ := (Option.bind_some _ _).symm.trans H; with_reducible exact H2_) | with_reducible exact H | (rw [hy149]; exact H) | exact H
 have Ny149 := zK hy149
 clear hy149
 replace H := Option.bind_eq_some_iff.mp H
 obtain ⟨t152, A20, H⟩ := H
 replace H : (spec_l6Untree.l0 k y149 t152 0) = some (r1, r2) := H
 have A2 := zK A20
 clear A20
 have H' := zK H
 clear H
 go_enter Tryz.func120, Tryz.ntmps120
 go_wp2_with (first | ((with_reducible refine gate_dst (N := 12) rfl ?_); (try (refine gate_guard zq28 ?_; dsimp only)); refine Kd.R_lit k118 _ 118 ?hg (N := 12) ?hd (xs := ([] : List (S118))) (inner := []) (ok := fun _ => True) (okp := fun _ => True) ?hr ?hp (fun _ hk => hk) trivial (Below.refl _ _) (Nat.le_refl _) zq16 ?_; (case hd => rfl); (case hg => rfl); (case hr => first | (go_simp; done) | (go_simp; rfl)); (case hp => exact (Reps.none _ _)); intro v150 w3 ho4 hb hg_ hnew_; clear hg_ hnew_; (first | rw [← Ny149.out] at ho4 | (simp only [Int.reduceToNat] at ho4; rw [← Ny149.out] at ho4)); have n0_ := zK (Kd.R_lower ho4 (below_size zq0)); have n1_ := zK (below_step zq0 hb); clear HB; have HO151 := n0_; have HB := n1_; clear n0_ n1_; clear hb ho4) | ((with_reducible refine gate_callee (f := 159) rfl ?_); refine goesL_ (some 14) rfl rfl Tryz.func159 zq3 rfl #[.string a0] rfl zq1 ?_; (with_reducible refine (spec_l1Split.calls k a0 t152 _ A2.out).mono ?_); rintro e w5 ⟨v153, rfl, ho0, hb⟩; refine ⟨_, rfl, ?_⟩; have n0_ := zK (Kd.R_below (by (with_reducible repeat (first | apply zR | apply zV | apply zW)); exact HO151.out) hb); have n1_ := zK (Kd.R_lower ho0 (below_size zq0)); have n2_ := zK (below_step zq0 hb); clear HO151; clear HB; have HO151 := n0_; have HO154 := n1_; have HB := n2_; clear n0_ n1_ n2_; (try clear hb); (try clear hb2); (try clear hk); (try clear hi); (try clear ho0)))
 go_loopg [4, 6] k (fun kq v4 v6 w' => ∃ (x4_1 : List (S118)) (x6_1 : Int), v6 = .int .i64 x6_1 ∧ Aside0 (spec_l6Untree.l0 kq x4_1 t152 x6_1 = some (r1, r2)) ∧ Aside0 (kq ≤ k) ∧ Aside0 (Kd.R k118 118 w' w.heap.size (fun _ => True) v4 x4_1) ∧ Aside0 (Kd.R Kd.string 9 w' w.heap.size (fun _ => True) v153 t152) ∧ Aside0 (Below w.heap.size w w'))
 case atStart => exact ⟨(y149), (0), zq4, H', ⟨Nat.le_refl _⟩, ⟨by (with_reducible repeat (first | apply zR | apply zV | apply zW)); exact HO151.out⟩, ⟨by (with_reducible repeat (first | apply zR | apply zV | apply zW)); exact HO154.out⟩, ⟨by repeat (first | (with_reducible first | exact HB.out | apply zA | apply zN | apply zD) | exact HB.out)⟩⟩
 case round =>
  clear H'
  try clear c1
  try clear p2
  obtain ⟨x4_1, x6_1, rfl, HA, HK1, HO_4, HO_5, HB⟩ := hrel
  cases gk with
  | zero => exact absurd HA.out (by simp [spec_l6Untree.l0])
  | succ k1 =>
   have H := HA.out
   clear HA
   simp only [spec_l6Untree.l0] at H
   by_cases c6 : x6_1 < (t152.length : Int)
   ·
    rw [if_pos c6] at H
    have c6b0 : decide (x6_1 < (t152.length : Int)) = true := decide_eq_true c6
    clear c6
    by_cases c7 : 0 ≤ x6_1
    ·
     rw [if_pos c7] at H
     have c7b0 : decide (0 ≤ x6_1) = true := decide_eq_true c7
     clear c7
     replace H := Option.bind_eq_some_iff.mp H
     obtain ⟨⟨t157, t158⟩, A80, H⟩ := H
     replace H : ((spec_l6Split.f k1 t157).bind fun t159 => (if t158 = true then (spec_l6Untree.j1 k1 x4_1 t152 x6_1 t159 ((t159.length : Int) != 3)) else (spec_l6Untree.j1 k1 x4_1 t152 x6_1 t159 true))) = some (r1, r2) := H
     have A8 := zK A80
     clear A80
     replace H := Option.bind_eq_some_iff.mp H
     obtain ⟨t159, A90, H⟩ := H
     replace H : (if t158 = true then (spec_l6Untree.j1 k1 x4_1 t152 x6_1 t159 ((t159.length : Int) != 3)) else (spec_l6Untree.j1 k1 x4_1 t152 x6_1 t159 true)) = some (r1, r2) := H
     have A9 := zK A90
     clear A90
     have HC10 := zK H
     clear H
     obtain ⟨Ao11, co11, eo11⟩ := Kd.R_slice HO_5.out
     subst eo11
     have p156 : 0 ≤ (x6_1 : Int) := zX zq2
     have q156 : x6_1 < (t152.length : Int) := zX zq2
     obtain ⟨ad156, e156, hx156_0⟩ := Kd.at_string (Kd.R_reads' HO_5.out).2.2 x6_1 p156 q156
     cases e156
     replace p156 := eq_true p156
     replace q156 := eq_true q156
     go_upto_region 8 with (first | ((with_reducible refine gate_callee (f := 169) rfl ?_); refine goesL_ (some 26) rfl rfl Tryz.func169 zq3 rfl #[.string (rdOf ByteArray.empty t152 x6_1)] rfl zq1 ?_; (with_reducible refine (spec_l6Unline.calls (rdOf ByteArray.empty t152 x6_1) t157 t158 _ A8.out).mono ?_); rintro e w' ⟨rfl, ⟨nd, rfl⟩⟩; refine ⟨_, rfl, ?_⟩) | ((with_reducible refine gate_callee (f := 170) rfl ?_); refine goesL_ (some 30) rfl rfl Tryz.func170 zq3 rfl #[.string t157] rfl zq1 ?_; (with_reducible refine (spec_l6Split.calls k1 t157 t159 _ A9.out).mono ?_); rintro e w12 ⟨v160, rfl, ho0, hb⟩; refine ⟨_, rfl, ?_⟩; have n0_ := zK (Kd.R_below zq10 hb); have n1_ := zK (Kd.R_elder' zq17 (Kd.R_base ho0) hb); have n2_ := zK (Kd.R_lower (Kd.R_new' ho0 (Kd.R_lt zq17)) (below_size zq0)); have n3_ := zK (below_step zq0 hb); clear HO_4; clear HO_5; clear HB; have HO_4 := n0_; have HO_5 := n1_; have HO161 := n2_; have HB := n3_; clear n0_ n1_ n2_ n3_; (try clear hb); (try clear hb2); (try clear hk); (try clear hi); (try clear ho0)))
     (try simp only [Act.put, zS, zT, zU])
     go_cut [37] (fun v37 wc => ∃ (kq : Nat) (x37_9 : Bool), v37 = .bool x37_9 ∧ Aside0 (spec_l6Untree.j1 kq x4_1 t152 x6_1 t159 x37_9 = some (r1, r2)) ∧ Aside0 (kq ≤ k1) ∧ Aside0 (Kd.R k118 118 wc w.heap.size (fun _ => True) u4 x4_1) ∧ Aside0 (Kd.R Kd.string 9 wc w.heap.size (fun k_ => some k_ ≠ (v160 : Value).ownBlock) (.slice (some ad156) t152.length co11) t152) ∧ Aside0 (Kd.R Kd.string 9 wc w.heap.size (fun k_ => some k_ ≠ ((.slice (some ad156) t152.length co11) : Value).ownBlock) v160 t159) ∧ Aside0 (Below w.heap.size w wc))
     case first =>
      have H := HC10.out
      clear HC10
      by_cases c13 : t158 = true
      ·
       subst c13
       have H1 : (spec_l6Untree.j1 k1 x4_1 t152 x6_1 t159 ((t159.length : Int) != 3)) = some (r1, r2) := by rw [if_pos rfl] at H; exact H
       clear H
       have H := H1
       clear H1
       have H' := zK H
       clear H
       obtain ⟨Ao14, co14, eo14⟩ := Kd.R_slice HO161.out
       subst eo14
       go_wp2
       go_meet
       case rel => exact ⟨_, (((t159.length : Int) != 3)), zq4, H', ⟨by have := HK1.out; first | omega | exact Nat.le_refl _⟩, ⟨by (with_reducible repeat (first | apply zR | apply zV | apply zW)); exact HO_4.out⟩, ⟨by (with_reducible repeat (first | apply zR | apply zV | apply zW)); exact Kd.R_mono HO_5.out (fun _ hk => hk.2)⟩, ⟨by (with_reducible repeat (first | apply zR | apply zV | apply zW)); exact Kd.R_mono HO161.out (fun _ hk => hk.2)⟩, ⟨by repeat (first | (with_reducible first | exact HB.out | apply zA | apply zN | apply zD) | exact HB.out)⟩⟩
      replace c13 := Bool.eq_false_iff.mpr c13
      subst c13
      have H1 : (spec_l6Untree.j1 k1 x4_1 t152 x6_1 t159 true) = some (r1, r2) := by rw [if_neg (show ¬ (false = true) by decide)] at H; exact H
      clear H
      have H := H1
      clear H1
      have H' := zK H
      clear H
      go_wp2
      go_meet
      case rel => exact ⟨_, (true), zq4, H', ⟨by have := HK1.out; first | omega | exact Nat.le_refl _⟩, ⟨by (with_reducible repeat (first | apply zR | apply zV | apply zW)); exact HO_4.out⟩, ⟨by (with_reducible repeat (first | apply zR | apply zV | apply zW)); exact Kd.R_mono HO_5.out (fun _ hk => hk.2)⟩, ⟨by (with_reducible repeat (first | apply zR | apply zV | apply zW)); exact Kd.R_mono HO161.out (fun _ hk => hk.2)⟩, ⟨by repeat (first | (with_reducible first | exact HB.out | apply zA | apply zN | apply zD) | exact HB.out)⟩⟩
     case rest =>
      clear HC10
      try clear c1
      try clear p1
      try clear q1
      try clear hx1
      try clear p2
      try clear c6
      try clear c6b0
      try clear c7
      try clear c7b0
      try clear c12
      try clear c13
      try clear hx156_0
      try clear p156
      try clear p2
      try clear q156
      obtain ⟨kq, x37_9, rfl, HA, HJ9, HO_4, HO_5, HO_9, HB⟩ := hcut
      cases kq with
      | zero => exact absurd HA.out (by simp [spec_l6Untree.j1])
      | succ kj9 =>
       have H := HA.out
       clear HA
       simp only [spec_l6Untree.j1] at H
       by_cases c15 : x37_9 = true
       ·
        subst c15
        have H1 : (some (([] : List (S118)), false)) = some (r1, r2) := by rw [if_pos rfl] at H; exact H
        clear H
        have H := H1
        clear H1
        simp only [Option.some.injEq, Prod.mk.injEq] at H
        obtain ⟨rfl, rfl⟩ := H
        go_wp2
        go_ret2
        exact ⟨_, zq5, zq20, zq0⟩
       replace c15 := Bool.eq_false_iff.mpr c15
       subst c15
       have H1 : (if 2 < (t159.length : Int) then (if 1 < (t159.length : Int) then (spec_l6Untree.l1 kj9 x4_1 t152 x6_1 t159 1 (rdOf ByteArray.empty t159 2) 0 (rdOf ByteArray.empty t159 1)) else (none)) else (none)) = some (r1, r2) := by rw [if_neg (show ¬ (false = true) by decide)] at H; exact H
       clear H
       have H := H1
       clear H1
       by_cases c16 : 2 < (t159.length : Int)
       ·
        rw [if_pos c16] at H
        have c16b0 : decide (2 < (t159.length : Int)) = true := decide_eq_true c16
        have c16b1 : decide (2 < t159.length) = true := decide_eq_true zq7
        clear c16
        by_cases c17 : 1 < (t159.length : Int)
        ·
         rw [if_pos c17] at H
         have c17b0 : decide (1 < (t159.length : Int)) = true := decide_eq_true c17
         have c17b1 : decide (1 < t159.length) = true := decide_eq_true zq7
         clear c17
         have H' := zK H
         clear H
         try go_wp2
         have n0_ := zK (zW HO_4.out)
         have n1_ := zK (zW HO_5.out)
         have n2_ := zK (zW HO_9.out)
         have n3_ := zK (zD HB.out)
         clear HO_4
         clear HO_5
         clear HO_9
         clear HB
         have HO_4 := n0_
         have HO_5 := n1_
         have HO_9 := n2_
         have HB := n3_
         clear n0_ n1_ n2_ n3_
         obtain ⟨Ao19, co19, eo19⟩ := Kd.R_slice HO_9.out
         (first | subst eo19 | (injection eo19 with f1_ f2_ f3_; have f4_ := f1_.symm; have f5_ := f3_.symm; clear f1_ f2_ f3_; subst f4_; subst f5_))
         have p162 : 0 ≤ (2 : Int) := zq7
         have q162 : 2 < (t159.length : Int) := zX zq2
         obtain ⟨ad162, e162, hx162_0⟩ := Kd.at_string (Kd.R_reads' HO_9.out).2.2 2 p162 q162
         cases e162
         (try simp only [show (2 : Int).toNat = 2 from rfl, Nat.reduceMul, Nat.reduceEqDiff, Go.Addr.add, ↓reduceIte] at hx162_0)
         have qi162 : (2 < t159.length) = True := eq_true zq7
         (try rw [show ((2 : Int)).toNat = 2 from rfl] at hx162_0)
         replace p162 := eq_true p162
         replace q162 := eq_true q162
         have p163 : 0 ≤ (1 : Int) := zq7
         have q163 : 1 < (t159.length : Int) := zX zq2
         obtain ⟨ad163, e163, hx163_0⟩ := Kd.at_string (Kd.R_reads' HO_9.out).2.2 1 p163 q163
         obtain rfl : ad162 = ad163 := (by injection e163)
         (try simp only [show (1 : Int).toNat = 1 from rfl, Nat.reduceMul, Nat.reduceEqDiff, Go.Addr.add, ↓reduceIte] at hx163_0)
         have qi163 : (1 < t159.length) = True := eq_true zq7
         (try rw [show ((1 : Int)).toNat = 1 from rfl] at hx163_0)
         replace p163 := eq_true p163
         replace q163 := eq_true q163
         refine start_ (n := 9) (S := fun w' => w'.cell? ⟨ad162.block, ad162.off + 2, none⟩ = some (.string (rdOf ByteArray.empty t159 2)) ∧ w'.cell? ⟨ad162.block, ad162.off + 1, none⟩ = some (.string (rdOf ByteArray.empty t159 1))) (ds := []) #[zF,zF,zF,zF,zF,zF,zF,zF,zF] zq3 rfl rfl ⟨hx162_0, hx163_0⟩ (fun hHeld => ?_); refine with_tabW spec_l6Untree.tab10 spec_l6Untree.bits10 (fun HT_ HW_ => ?_)
         generalize wc.drew = w18 at HO_4 HO_5 HO_9 HB hx162_0 hx163_0 hHeld ⊢
         refine pure_ (i := 0) (N := some 38) (v := ?_) (a' := ?_) #[zB,zF,zF,zF,zF,zF,zF,zF,zF] rfl rfl (any_of HT_.out zq3) (fun _ _ _ h => h) (Or.inl ⟨by rfl, ?_⟩) ?_ ?_
         rotate_left
         ·
          intro w'
          go_simp
          with_reducible rfl
         rotate_left
         ·
          simp only [Act.put, zS, zT, zU, i64_w, i32_w]
          rfl
         refine pure_ (i := 1) (N := some 39) (v := ?_) (a' := ?_) #[zB,zB,zF,zF,zF,zF,zF,zF,zF] rfl rfl (any_of HT_.out zq3) (fun _ _ _ h => h) (Or.inl ⟨by rfl, ?_⟩) ?_ ?_
         rotate_left
         ·
          intro w'
          go_simp
          with_reducible rfl
         rotate_left
         ·
          simp only [Act.put, zS, zT, zU, i64_w, i32_w]
          rfl
         refine pure_ (i := 3) (N := some 41) (v := ?_) (a' := ?_) #[zB,zB,zF,zB,zF,zF,zF,zF,zF] rfl rfl (any_of HT_.out zq3) (fun _ _ _ h => h) (Or.inl ⟨by rfl, ?_⟩) ?_ ?_
         rotate_left
         ·
          intro w'
          go_simp
          with_reducible rfl
         rotate_left
         ·
          simp only [Act.put, zS, zT, zU, i64_w, i32_w]
          rfl
         refine pure_ (i := 4) (N := some 42) (v := ?_) (a' := ?_) #[zB,zB,zF,zB,zB,zF,zF,zF,zF] rfl rfl (any_of HT_.out zq3) (fun _ _ _ h => h) (Or.inl ⟨by rfl, ?_⟩) ?_ ?_
         rotate_left
         ·
          intro w'
          go_simp
          with_reducible rfl
         rotate_left
         ·
          simp only [Act.put, zS, zT, zU, i64_w, i32_w]
          rfl
         refine take_ (i := 2) (N := some 40) (v := ?_) (a' := ?_) #[zB,zB,zB,zB,zB,zF,zF,zF,zF] rfl rfl (take_ofW HT_.out HW_.out zq3) (fun _ _ _ h => h) (Or.inl ⟨by rfl, ?_⟩) hHeld ?_ ?_
         rotate_left
         ·
          rintro w' ⟨s0, s1⟩
          go_simp
          with_reducible rfl
         rotate_left
         ·
          simp only [Act.put, zS, zT, zU, i64_w, i32_w]
          rfl
         refine take_ (i := 5) (N := some 43) (v := ?_) (a' := ?_) #[zB,zB,zB,zB,zB,zB,zF,zF,zF] rfl rfl (take_ofW HT_.out HW_.out zq3) (fun _ _ _ h => h) (Or.inl ⟨by rfl, ?_⟩) hHeld ?_ ?_
         rotate_left
         ·
          rintro w' ⟨s0, s1⟩
          go_simp
          with_reducible rfl
         rotate_left
         ·
          simp only [Act.put, zS, zT, zU, i64_w, i32_w]
          rfl
         refine pure_ (i := 6) (N := some 44) (v := ?_) (a' := ?_) #[zB,zB,zB,zB,zB,zB,zB,zF,zF] rfl rfl (any_of HT_.out zq3) (fun _ _ _ h => h) (Or.inl ⟨by rfl, ?_⟩) ?_ ?_
         rotate_left
         ·
          intro w'
          go_simp
          with_reducible rfl
         rotate_left
         ·
          simp only [Act.put, zS, zT, zU, i64_w, i32_w]
          rfl
         refine one_ (i := 7) (N := some 10) #[zB,zB,zB,zB,zB,zB,zB,zB,zF] rfl rfl (one_of HT_.out zq3) zq13 (fun K hK => ?_)
         refine box_step ?hg (N := 10) ?hd (cs := #[.string (⟨#[]⟩ : ByteArray), .int .i64 0, .string (⟨#[]⟩ : ByteArray)]) (t := 118) ?hr ?_; (case hd => rfl); (case hg => rfl); (case hr => first | (go_simp; done) | (go_simp; rfl))
         intro gb164 hg w20 hbox hb
         have HS0_ := (hb.cell (zL _ _ (hHeld.1))).trans (hHeld.1)
         have HS1_ := (hb.cell (zL _ _ (hHeld.2))).trans (hHeld.2)
         have n0_ := zK (Kd.R_below (Kd.R_elderB zq10 gb164 (Nat.le_of_eq hg.symm)) hb)
         have n1_ := zK (Kd.R_below zq17 hb)
         have n2_ := zK (Kd.R_below zq25 hb)
         have n3_ := zK (below_step zq0 hb)
         have n4_ := zK (hbox)
         have n5_ := zK ((by rw [hg]; exact (below_size zq0) : w.heap.size ≤ gb164))
         have n6_ := zK ((by rw [hg]; exact (below_size zq0) : w.heap.size ≤ gb164))
         clear HO_4
         clear HO_5
         clear HO_9
         clear HB
         have HO_4 := n0_
         have HO_5 := n1_
         have HO_9 := n2_
         have HB := n3_
         have BK164 := n4_
         have GW164 := n5_
         have GE164 := n6_
         clear n0_ n1_ n2_ n3_ n4_ n5_ n6_
         clear hb hbox hg
         refine hK.out _ _ ⟨HS0_, HS1_⟩ (fun hHeld => ?_)
         clear hK K
         refine norm_ (a' := ?_) ?_ ?_
         rotate_left
         ·
          show Act.put _ (some 10) _ = _
          simp only [Act.put, zS, zT, zU, i64_w, i32_w]
          rfl
         refine one_ (i := 8) (N := none) #[zB,zB,zB,zB,zB,zB,zB,zB,zB] rfl rfl (one_of HT_.out zq3) zq13 (fun K hK => ?_)
         have hs21 : w20.cell? ⟨gb164, 0, none⟩ = some (.string (⟨#[]⟩ : ByteArray)) := (blk_cell BK164.out 0).trans rfl
         have hfs21 := blk_frozen BK164.out 0
         have hs22 : w20.cell? ⟨gb164, 1, none⟩ = some (.int .i64 0) := (blk_cell BK164.out 1).trans rfl
         have hfs22 := blk_frozen BK164.out 1
         have hs23 : w20.cell? ⟨gb164, 2, none⟩ = some (.string (⟨#[]⟩ : ByteArray)) := (blk_cell BK164.out 2).trans rfl
         have hfs23 := blk_frozen BK164.out 2
         refine skip_ (w1 := ?_) zq28 rfl ?_ ?_
         rotate_left
         ·
          go_simp
          rfl
         refine hK.out _ _ ⟨((cell_far (p := ⟨gb164, _, none⟩) zq11 _).trans (((cell_far (p := ⟨gb164, _, none⟩) zq11 _).trans (((cell_far (p := ⟨gb164, _, none⟩) zq11 _).trans (hHeld.1)))))), ((cell_far (p := ⟨gb164, _, none⟩) zq11 _).trans (((cell_far (p := ⟨gb164, _, none⟩) zq11 _).trans (((cell_far (p := ⟨gb164, _, none⟩) zq11 _).trans (hHeld.2))))))⟩ (fun hHeld => ?_)
         clear hK K
         refine done_ (done_of HT_.out zq3) ?_
         try go_wp2
         go_loopg [11] kj9 (fun kq v11 w' => ∃ (x11_3 : Int) (x165001_3 : Int), v11 = .int .i64 x11_3 ∧ Aside0 (spec_l6Untree.l1 kq x4_1 t152 x6_1 t159 x11_3 (rdOf ByteArray.empty t159 2) x165001_3 (rdOf ByteArray.empty t159 1) = some (r1, r2)) ∧ Aside0 (kq ≤ kj9) ∧ Aside0 (Kd.R k118 118 w' w.heap.size (fun k_ => k_ ≠ gb164) u4 x4_1) ∧ Aside0 (Kd.R Kd.string 9 w' w.heap.size (fun k_ => some k_ ≠ ((.slice (some ad162) t159.length co19) : Value).ownBlock) (.slice (some ad156) t152.length co11) t152) ∧ Aside0 (Kd.R Kd.string 9 w' w.heap.size (fun k_ => some k_ ≠ ((.slice (some ad156) t152.length co11) : Value).ownBlock) (.slice (some ad162) t159.length co19) t159) ∧ Aside0 (w'.heap[gb164]? = some (.cells #[.string (rdOf ByteArray.empty t159 2), .int .i64 x165001_3, .string (rdOf ByteArray.empty t159 1)] 118 (0, 0))) ∧ Aside0 (Below w.heap.size w w'))
         case atStart => exact ⟨(1), (0), zq4, H', ⟨Nat.le_refl _⟩, ⟨by (with_reducible repeat (first | apply zR | apply zV | apply zW)); exact Kd.R_mono (Kd.R_far (p := ⟨gb164, 2, none⟩) (Kd.R_far (p := ⟨gb164, 1, none⟩) (Kd.R_far (p := ⟨gb164, 0, none⟩) (Kd.R_mono HO_4.out (fun k_ hk => (⟨hk, hk.2⟩ : _ ∧ k_ ≠ gb164))) (fun _ hk => hk.2) (.string (rdOf ByteArray.empty t159 2))) (fun _ hk => hk.2) (.int .i64 0)) (fun _ hk => hk.2) (.string (rdOf ByteArray.empty t159 1))) (fun _ hk => hk.1.2)⟩, ⟨by (with_reducible repeat (first | apply zR | apply zV | apply zW)); exact Kd.R_mono (Kd.R_far (p := ⟨gb164, 2, none⟩) (Kd.R_far (p := ⟨gb164, 1, none⟩) (Kd.R_far (p := ⟨gb164, 0, none⟩) (Kd.R_types HO_5.out BK164.out zq13) (fun _ hk => hk.2) (.string (rdOf ByteArray.empty t159 2))) (fun _ hk => hk.2) (.int .i64 0)) (fun _ hk => hk.2) (.string (rdOf ByteArray.empty t159 1))) (fun _ hk => hk.1)⟩, ⟨by (with_reducible repeat (first | apply zR | apply zV | apply zW)); exact Kd.R_mono (Kd.R_far (p := ⟨gb164, 2, none⟩) (Kd.R_far (p := ⟨gb164, 1, none⟩) (Kd.R_far (p := ⟨gb164, 0, none⟩) (Kd.R_types HO_9.out BK164.out zq13) (fun _ hk => hk.2) (.string (rdOf ByteArray.empty t159 2))) (fun _ hk => hk.2) (.int .i64 0)) (fun _ hk => hk.2) (.string (rdOf ByteArray.empty t159 1))) (fun _ hk => hk.1)⟩, ⟨by (with_reducible repeat (first | refine zM ?_ _ | refine zP ?_ | refine zQ ?_ _)); refine blk_put (cs := #[.string (rdOf ByteArray.empty t159 2), .int .i64 0, .string (⟨#[]⟩ : ByteArray)]) ?_ 2 _ rfl; (with_reducible repeat (first | refine zM ?_ _ | refine zP ?_ | refine zQ ?_ _)); refine blk_put (cs := #[.string (rdOf ByteArray.empty t159 2), .int .i64 0, .string (⟨#[]⟩ : ByteArray)]) ?_ 1 _ rfl; (with_reducible repeat (first | refine zM ?_ _ | refine zP ?_ | refine zQ ?_ _)); refine blk_put (cs := #[.string (⟨#[]⟩ : ByteArray), .int .i64 0, .string (⟨#[]⟩ : ByteArray)]) ?_ 0 _ rfl; (with_reducible repeat (first | refine zM ?_ _ | refine zP ?_ | refine zQ ?_ _)); exact BK164.out⟩, ⟨by repeat (first | (with_reducible first | exact HB.out | apply zA | apply zN | apply zD | refine below_set ?_ GE164.out) | exact HB.out)⟩⟩
         case round =>
          clear H'
          try clear c1
          try clear p1
          try clear q1
          try clear hx1
          try clear qi1
          try clear p2
          try clear c6
          try clear c6b0
          try clear c7
          try clear c7b0
          try clear c12
          try clear c13
          try clear c15
          try clear p15
          try clear q15
          try clear hx15
          try clear c16
          try clear c16b0
          try clear c16b1
          try clear p16
          try clear q16
          try clear hx16
          try clear qi16
          try clear c17
          try clear c17b0
          try clear c17b1
          try clear hx156_0
          try clear hx162_0
          try clear hx163_0
          try clear p1
          try clear p156
          try clear p162
          try clear p163
          try clear p2
          try clear q1
          try clear q156
          try clear q162
          try clear q163
          obtain ⟨x11_3, x165001_3, rfl, HA, HK3, HO_4, HO_5, HO_9, BK164, HB⟩ := hrel
          cases gk with
          | zero => exact absurd HA.out (by simp [spec_l6Untree.l1])
          | succ k3 =>
           have H := HA.out
           clear HA
           simp only [spec_l6Untree.l1] at H
           by_cases c24 : x11_3 < 4
           ·
            rw [if_pos c24] at H
            have c24b0 : decide (x11_3 < 4) = true := decide_eq_true c24
            clear c24
            replace H := Option.bind_eq_some_iff.mp H
            obtain ⟨t165, A250, H⟩ := H
            replace H : (if 0 ≤ x11_3 then (if x11_3 < (t165.length : Int) then (if 0 < (t159.length : Int) then (if (rdOf ByteArray.empty t165 x11_3).toList = (rdOf ByteArray.empty t159 0).toList then (spec_l6Untree.l1 k3 x4_1 t152 x6_1 t159 (wrap64 (x11_3 + 1)) (rdOf ByteArray.empty t159 2) x11_3 (rdOf ByteArray.empty t159 1)) else (spec_l6Untree.l1 k3 x4_1 t152 x6_1 t159 (wrap64 (x11_3 + 1)) (rdOf ByteArray.empty t159 2) x165001_3 (rdOf ByteArray.empty t159 1))) else (none)) else (none)) else (none)) = some (r1, r2) := H
            have A25 := zK A250
            clear A250
            by_cases c26 : 0 ≤ x11_3
            ·
             rw [if_pos c26] at H
             have c26b0 : decide (0 ≤ x11_3) = true := decide_eq_true c26
             clear c26
             by_cases c27 : x11_3 < (t165.length : Int)
             ·
              rw [if_pos c27] at H
              have c27b0 : decide (x11_3 < (t165.length : Int)) = true := decide_eq_true c27
              clear c27
              by_cases c28 : 0 < (t159.length : Int)
              ·
               rw [if_pos c28] at H
               have c28b0 : decide (0 < (t159.length : Int)) = true := decide_eq_true c28
               have c28b1 : decide (0 < t159.length) = true := decide_eq_true zq7
               clear c28
               by_cases c29 : (rdOf ByteArray.empty t165 x11_3).toList = (rdOf ByteArray.empty t159 0).toList
               ·
                rw [if_pos c29] at H
                have c29b0 : ((rdOf ByteArray.empty t165 x11_3).toList == (rdOf ByteArray.empty t159 0).toList) = true := beq_iff_eq.mpr c29
                have c29b1 : ((rdOf ByteArray.empty t165 x11_3).toList != (rdOf ByteArray.empty t159 0).toList) = false := bne_eq_false_iff_eq.mpr c29
                clear c29
                have H' := zK H
                clear H
                try go_wp2
                have n0_ := zK (zW HO_4.out)
                have n1_ := zK (zW HO_5.out)
                have n2_ := zK (zW HO_9.out)
                have n3_ := zK (zP BK164.out)
                have n4_ := zK (zD HB.out)
                clear HO_4
                clear HO_5
                clear HO_9
                clear BK164
                clear HB
                have HO_4 := n0_
                have HO_5 := n1_
                have HO_9 := n2_
                have BK164 := n3_
                have HB := n4_
                clear n0_ n1_ n2_ n3_ n4_
                have p169 : 0 ≤ (0 : Int) := zq7
                have q169 : 0 < (t159.length : Int) := zX zq2
                obtain ⟨ad169, e169, hx169_0⟩ := Kd.at_string (Kd.R_reads' HO_9.out).2.2 0 p169 q169
                obtain rfl : ad162 = ad169 := (by injection e169)
                have qi169 : (0 < t159.length) = True := eq_true zq7
                (try rw [show ((0 : Int)).toNat = 0 from rfl] at hx169_0)
                (try rw [Addr.add_zero'] at hx169_0)
                replace p169 := eq_true p169
                replace q169 := eq_true q169
                refine start_ (n := 8) (S := fun w' => w'.cell? ad162 = some (.string (rdOf ByteArray.empty t159 0))) (ds := []) #[zF,zF,zF,zF,zF,zF,zF,zF] zq3 rfl rfl hx169_0 (fun hHeld => ?_); refine with_tabW spec_l6Untree.tab14 spec_l6Untree.bits14 (fun HT_ HW_ => ?_)
                generalize wr.drew = w30 at HO_4 HO_5 HO_9 BK164 HB hx169_0 hHeld ⊢
                refine pure_ (i := 1) (N := some 50) (v := ?_) (a' := ?_) #[zF,zB,zF,zF,zF,zF,zF,zF] rfl rfl (any_of HT_.out zq3) (fun _ _ _ h => h) (Or.inl ⟨by rfl, ?_⟩) ?_ ?_
                rotate_left
                ·
                 intro w'
                 go_simp
                 with_reducible rfl
                rotate_left
                ·
                 simp only [Act.put, zS, zT, zU, i64_w, i32_w]
                 rfl
                refine pure_ (i := 4) (N := some 53) (v := ?_) (a' := ?_) #[zF,zB,zF,zF,zB,zF,zF,zF] rfl rfl (any_of HT_.out zq3) (fun _ _ _ h => h) (Or.inl ⟨by rfl, ?_⟩) ?_ ?_
                rotate_left
                ·
                 intro w'
                 go_simp
                 with_reducible rfl
                rotate_left
                ·
                 simp only [Act.put, zS, zT, zU, i64_w, i32_w]
                 rfl
                refine pure_ (i := 5) (N := some 54) (v := ?_) (a' := ?_) #[zF,zB,zF,zF,zB,zB,zF,zF] rfl rfl (any_of HT_.out zq3) (fun _ _ _ h => h) (Or.inl ⟨by rfl, ?_⟩) ?_ ?_
                rotate_left
                ·
                 intro w'
                 go_simp
                 with_reducible rfl
                rotate_left
                ·
                 simp only [Act.put, zS, zT, zU, i64_w, i32_w]
                 rfl
                refine take_ (i := 6) (N := some 55) (v := ?_) (a' := ?_) #[zF,zB,zF,zF,zB,zB,zB,zF] rfl rfl (take_ofW HT_.out HW_.out zq3) (fun _ _ _ h => h) (Or.inl ⟨by rfl, ?_⟩) hHeld ?_ ?_
                rotate_left
                ·
                 rintro w' s0
                 go_simp
                 with_reducible rfl
                rotate_left
                ·
                 simp only [Act.put, zS, zT, zU, i64_w, i32_w]
                 rfl
                refine one_ (i := 0) (N := some 49) #[zB,zB,zF,zF,zB,zB,zB,zF] rfl rfl (one_of HT_.out zq3) zq13 (fun K hK => ?_)
                refine goes_ Tryz.func136 zq3 rfl #[] zq28 rfl rfl zq1 ?_
                with_reducible refine (spec_l6Words.calls  t165 _ A25.out).mono ?_
                rintro e w31 ⟨v166, rfl, ho0, hb⟩
                have HS0_ := (hb.cell (zL _ _ (hHeld))).trans (hHeld)
                refine ⟨_, rfl, ?_⟩
                have n0_ := zK (Kd.R_below zq10 hb)
                have n1_ := zK (Kd.R_elder' zq17 (Kd.R_base ho0) hb)
                have n2_ := zK (Kd.R_elder' zq25 (Kd.R_base ho0) hb)
                have n3_ := zK (Kd.R_lower (Kd.R_new' (Kd.R_new' ho0 (Kd.R_lt zq17)) (Kd.R_lt zq25)) (below_size (by repeat (first | (with_reducible first | exact HB.out | apply zA | apply zN | apply zD | refine below_set ?_ GE164.out) | exact HB.out))))
                have n4_ := zK (blk_below (g := gb164) (o := .cells #[.string (rdOf ByteArray.empty t159 2), .int .i64 x165001_3, .string (rdOf ByteArray.empty t159 1)] 118 (0, 0)) (by (with_reducible repeat (first | refine zM ?_ _ | refine zP ?_ | refine zQ ?_ _)); exact BK164.out) hb)
                have n5_ := zK (below_step (by repeat (first | (with_reducible first | exact HB.out | apply zA | apply zN | apply zD | refine below_set ?_ GE164.out) | exact HB.out)) hb)
                clear HO_4
                clear HO_5
                clear HO_9
                clear BK164
                clear HB
                have HO_4 := n0_
                have HO_5 := n1_
                have HO_9 := n2_
                have HO167 := n3_
                have BK164 := n4_
                have HB := n5_
                clear n0_ n1_ n2_ n3_ n4_ n5_
                (try clear hb)
                (try clear hb2)
                (try clear hk)
                (try clear hi)
                (try clear ho0)
                obtain ⟨Ao32, co32, eo32⟩ := Kd.R_slice HO167.out
                (first | subst eo32 | (injection eo32 with f1_ f2_ f3_; have f4_ := f1_.symm; have f5_ := f3_.symm; clear f1_ f2_ f3_; subst f4_; subst f5_))
                have p168 : 0 ≤ (x11_3 : Int) := zX zq2
                have q168 : x11_3 < (t165.length : Int) := zX zq2
                obtain ⟨ad168, e168, hx168_0⟩ := Kd.at_string (Kd.R_reads' HO167.out).2.2 x11_3 p168 q168
                cases e168
                replace p168 := eq_true p168
                replace q168 := eq_true q168
                refine hK.out _ _ HS0_ (fun hHeld => X.wpAnyLast_more (fun w' => w'.cell? ad162 = some (.string (rdOf ByteArray.empty t159 0)) ∧ w'.cell? (ad168.add (x11_3).toNat) = some (.string (rdOf ByteArray.empty t165 x11_3))) (fun _ ⟨s0, s1⟩ => s0) ⟨HS0_, hx168_0⟩ (fun hHeld => ?_))
                clear hK K
                refine norm_ (a' := ?_) ?_ ?_
                rotate_left
                ·
                 show Act.put _ (some 49) _ = _
                 simp only [Act.put, zS, zT, zU, i64_w, i32_w]
                 rfl
                refine pure_ (i := 2) (N := some 51) (v := ?_) (a' := ?_) #[zB,zB,zB,zF,zB,zB,zB,zF] rfl rfl (any_of HT_.out zq3) (fun _ _ _ h => h) (Or.inl ⟨by rfl, ?_⟩) ?_ ?_
                rotate_left
                ·
                 intro w'
                 go_simp
                 with_reducible rfl
                rotate_left
                ·
                 simp only [Act.put, zS, zT, zU, i64_w, i32_w]
                 rfl
                refine take_ (i := 3) (N := some 52) (v := ?_) (a' := ?_) #[zB,zB,zB,zB,zB,zB,zB,zF] rfl rfl (take_ofW HT_.out HW_.out zq3) (fun _ _ _ h => h) (Or.inl ⟨by rfl, ?_⟩) hHeld ?_ ?_
                rotate_left
                ·
                 rintro w' ⟨s0, s1⟩
                 go_simp
                 with_reducible rfl
                rotate_left
                ·
                 simp only [Act.put, zS, zT, zU, i64_w, i32_w]
                 rfl
                refine pure_ (i := 7) (N := some 56) (v := ?_) (a' := ?_) #[zB,zB,zB,zB,zB,zB,zB,zB] rfl rfl (any_of HT_.out zq3) (fun _ _ _ h => h) (Or.inl ⟨by rfl, ?_⟩) ?_ ?_
                rotate_left
                ·
                 intro w'
                 go_simp
                 with_reducible rfl
                rotate_left
                ·
                 simp only [Act.put, zS, zT, zU, i64_w, i32_w]
                 rfl
                refine done_ (done_of HT_.out zq3) ?_
                have hcz33_0 : w31.cell? ⟨gb164, 0, none⟩ = some (.string (rdOf ByteArray.empty t159 2)) := (blk_cell BK164.out 0).trans rfl
                have hcz33_1 : w31.cell? ⟨gb164, 1, none⟩ = some (.int .i64 x165001_3) := (blk_cell BK164.out 1).trans rfl
                have hcz33_2 : w31.cell? ⟨gb164, 2, none⟩ = some (.string (rdOf ByteArray.empty t159 1)) := (blk_cell BK164.out 2).trans rfl
                have hfz33_0 := blk_frozen BK164.out 0
                have hfz33_1 := blk_frozen BK164.out 1
                have hfz33_2 := blk_frozen BK164.out 2
                try go_wp2
                go_roundg k3
                case measure => have := HK1.out; have := HJ9.out; have := HK3.out; omega
                case rel => exact ⟨(wrap64 (x11_3 + 1)), (x11_3), zq4, H', ⟨by have := HK1.out; have := HJ9.out; have := HK3.out; omega⟩, ⟨by (with_reducible repeat (first | apply zR | apply zV | apply zW)); exact Kd.R_mono (Kd.R_far (p := ⟨gb164, 1, none⟩) (Kd.R_mono HO_4.out (fun k_ hk => (⟨hk, hk⟩ : _ ∧ k_ ≠ gb164))) (fun _ hk => hk.2) (.int .i64 x11_3)) (fun _ hk => hk.1)⟩, ⟨by (with_reducible repeat (first | apply zR | apply zV | apply zW)); exact Kd.R_mono (Kd.R_far (p := ⟨gb164, 1, none⟩) (Kd.R_types HO_5.out BK164.out zq13) (fun _ hk => hk.2) (.int .i64 x11_3)) (fun _ hk => hk.1.1)⟩, ⟨by (with_reducible repeat (first | apply zR | apply zV | apply zW)); exact Kd.R_mono (Kd.R_far (p := ⟨gb164, 1, none⟩) (Kd.R_types HO_9.out BK164.out zq13) (fun _ hk => hk.2) (.int .i64 x11_3)) (fun _ hk => hk.1.1)⟩, ⟨by (with_reducible repeat (first | refine zM ?_ _ | refine zP ?_ | refine zQ ?_ _)); refine blk_put (cs := #[.string (rdOf ByteArray.empty t159 2), .int .i64 x165001_3, .string (rdOf ByteArray.empty t159 1)]) ?_ 1 _ rfl; (with_reducible repeat (first | refine zM ?_ _ | refine zP ?_ | refine zQ ?_ _)); exact BK164.out⟩, ⟨by repeat (first | (with_reducible first | exact HB.out | apply zA | apply zN | apply zD | refine below_set ?_ GE164.out) | exact HB.out)⟩⟩
               rw [if_neg c29] at H
               have c29b0 : ((rdOf ByteArray.empty t165 x11_3).toList == (rdOf ByteArray.empty t159 0).toList) = false := beq_eq_false_iff_ne.mpr c29
               have c29b1 : ((rdOf ByteArray.empty t165 x11_3).toList != (rdOf ByteArray.empty t159 0).toList) = true := bne_iff_ne.mpr c29
               have H' := zK H
               clear H
               try go_wp2
               have n0_ := zK (zW HO_4.out)
               have n1_ := zK (zW HO_5.out)
               have n2_ := zK (zW HO_9.out)
               have n3_ := zK (zP BK164.out)
               have n4_ := zK (zD HB.out)
               clear HO_4
               clear HO_5
               clear HO_9
               clear BK164
               clear HB
               have HO_4 := n0_
               have HO_5 := n1_
               have HO_9 := n2_
               have BK164 := n3_
               have HB := n4_
               clear n0_ n1_ n2_ n3_ n4_
               have p169 : 0 ≤ (0 : Int) := zq7
               have q169 : 0 < (t159.length : Int) := zX zq2
               obtain ⟨ad169, e169, hx169_0⟩ := Kd.at_string (Kd.R_reads' HO_9.out).2.2 0 p169 q169
               obtain rfl : ad162 = ad169 := (by injection e169)
               have qi169 : (0 < t159.length) = True := eq_true zq7
               (try rw [show ((0 : Int)).toNat = 0 from rfl] at hx169_0)
               (try rw [Addr.add_zero'] at hx169_0)
               replace p169 := eq_true p169
               replace q169 := eq_true q169
               refine start_ (n := 8) (S := fun w' => w'.cell? ad162 = some (.string (rdOf ByteArray.empty t159 0))) (ds := []) #[zF,zF,zF,zF,zF,zF,zF,zF] zq3 rfl rfl hx169_0 (fun hHeld => ?_); refine with_tabW spec_l6Untree.tab14 spec_l6Untree.bits14 (fun HT_ HW_ => ?_)
               generalize wr.drew = w34 at HO_4 HO_5 HO_9 BK164 HB hx169_0 hHeld ⊢
               refine pure_ (i := 1) (N := some 50) (v := ?_) (a' := ?_) #[zF,zB,zF,zF,zF,zF,zF,zF] rfl rfl (any_of HT_.out zq3) (fun _ _ _ h => h) (Or.inl ⟨by rfl, ?_⟩) ?_ ?_
               rotate_left
               ·
                intro w'
                go_simp
                with_reducible rfl
               rotate_left
               ·
                simp only [Act.put, zS, zT, zU, i64_w, i32_w]
                rfl
               refine pure_ (i := 4) (N := some 53) (v := ?_) (a' := ?_) #[zF,zB,zF,zF,zB,zF,zF,zF] rfl rfl (any_of HT_.out zq3) (fun _ _ _ h => h) (Or.inl ⟨by rfl, ?_⟩) ?_ ?_
               rotate_left
               ·
                intro w'
                go_simp
                with_reducible rfl
               rotate_left
               ·
                simp only [Act.put, zS, zT, zU, i64_w, i32_w]
                rfl
               refine pure_ (i := 5) (N := some 54) (v := ?_) (a' := ?_) #[zF,zB,zF,zF,zB,zB,zF,zF] rfl rfl (any_of HT_.out zq3) (fun _ _ _ h => h) (Or.inl ⟨by rfl, ?_⟩) ?_ ?_
               rotate_left
               ·
                intro w'
                go_simp
                with_reducible rfl
               rotate_left
               ·
                simp only [Act.put, zS, zT, zU, i64_w, i32_w]
                rfl
               refine take_ (i := 6) (N := some 55) (v := ?_) (a' := ?_) #[zF,zB,zF,zF,zB,zB,zB,zF] rfl rfl (take_ofW HT_.out HW_.out zq3) (fun _ _ _ h => h) (Or.inl ⟨by rfl, ?_⟩) hHeld ?_ ?_
               rotate_left
               ·
                rintro w' s0
                go_simp
                with_reducible rfl
               rotate_left
               ·
                simp only [Act.put, zS, zT, zU, i64_w, i32_w]
                rfl
               refine one_ (i := 0) (N := some 49) #[zB,zB,zF,zF,zB,zB,zB,zF] rfl rfl (one_of HT_.out zq3) zq13 (fun K hK => ?_)
               refine goes_ Tryz.func136 zq3 rfl #[] zq28 rfl rfl zq1 ?_
               with_reducible refine (spec_l6Words.calls  t165 _ A25.out).mono ?_
               rintro e w35 ⟨v166, rfl, ho0, hb⟩
               have HS0_ := (hb.cell (zL _ _ (hHeld))).trans (hHeld)
               refine ⟨_, rfl, ?_⟩
               have n0_ := zK (Kd.R_below zq10 hb)
               have n1_ := zK (Kd.R_elder' zq17 (Kd.R_base ho0) hb)
               have n2_ := zK (Kd.R_elder' zq25 (Kd.R_base ho0) hb)
               have n3_ := zK (Kd.R_lower (Kd.R_new' (Kd.R_new' ho0 (Kd.R_lt zq17)) (Kd.R_lt zq25)) (below_size (by repeat (first | (with_reducible first | exact HB.out | apply zA | apply zN | apply zD | refine below_set ?_ GE164.out) | exact HB.out))))
               have n4_ := zK (blk_below (g := gb164) (o := .cells #[.string (rdOf ByteArray.empty t159 2), .int .i64 x165001_3, .string (rdOf ByteArray.empty t159 1)] 118 (0, 0)) (by (with_reducible repeat (first | refine zM ?_ _ | refine zP ?_ | refine zQ ?_ _)); exact BK164.out) hb)
               have n5_ := zK (below_step (by repeat (first | (with_reducible first | exact HB.out | apply zA | apply zN | apply zD | refine below_set ?_ GE164.out) | exact HB.out)) hb)
               clear HO_4
               clear HO_5
               clear HO_9
               clear BK164
               clear HB
               have HO_4 := n0_
               have HO_5 := n1_
               have HO_9 := n2_
               have HO167 := n3_
               have BK164 := n4_
               have HB := n5_
               clear n0_ n1_ n2_ n3_ n4_ n5_
               (try clear hb)
               (try clear hb2)
               (try clear hk)
               (try clear hi)
               (try clear ho0)
               obtain ⟨Ao36, co36, eo36⟩ := Kd.R_slice HO167.out
               (first | subst eo36 | (injection eo36 with f1_ f2_ f3_; have f4_ := f1_.symm; have f5_ := f3_.symm; clear f1_ f2_ f3_; subst f4_; subst f5_))
               have p168 : 0 ≤ (x11_3 : Int) := zX zq2
               have q168 : x11_3 < (t165.length : Int) := zX zq2
               obtain ⟨ad168, e168, hx168_0⟩ := Kd.at_string (Kd.R_reads' HO167.out).2.2 x11_3 p168 q168
               cases e168
               replace p168 := eq_true p168
               replace q168 := eq_true q168
               refine hK.out _ _ HS0_ (fun hHeld => X.wpAnyLast_more (fun w' => w'.cell? ad162 = some (.string (rdOf ByteArray.empty t159 0)) ∧ w'.cell? (ad168.add (x11_3).toNat) = some (.string (rdOf ByteArray.empty t165 x11_3))) (fun _ ⟨s0, s1⟩ => s0) ⟨HS0_, hx168_0⟩ (fun hHeld => ?_))
               clear hK K
               refine norm_ (a' := ?_) ?_ ?_
               rotate_left
               ·
                show Act.put _ (some 49) _ = _
                simp only [Act.put, zS, zT, zU, i64_w, i32_w]
                rfl
               refine pure_ (i := 2) (N := some 51) (v := ?_) (a' := ?_) #[zB,zB,zB,zF,zB,zB,zB,zF] rfl rfl (any_of HT_.out zq3) (fun _ _ _ h => h) (Or.inl ⟨by rfl, ?_⟩) ?_ ?_
               rotate_left
               ·
                intro w'
                go_simp
                with_reducible rfl
               rotate_left
               ·
                simp only [Act.put, zS, zT, zU, i64_w, i32_w]
                rfl
               refine take_ (i := 3) (N := some 52) (v := ?_) (a' := ?_) #[zB,zB,zB,zB,zB,zB,zB,zF] rfl rfl (take_ofW HT_.out HW_.out zq3) (fun _ _ _ h => h) (Or.inl ⟨by rfl, ?_⟩) hHeld ?_ ?_
               rotate_left
               ·
                rintro w' ⟨s0, s1⟩
                go_simp
                with_reducible rfl
               rotate_left
               ·
                simp only [Act.put, zS, zT, zU, i64_w, i32_w]
                rfl
               refine pure_ (i := 7) (N := some 56) (v := ?_) (a' := ?_) #[zB,zB,zB,zB,zB,zB,zB,zB] rfl rfl (any_of HT_.out zq3) (fun _ _ _ h => h) (Or.inl ⟨by rfl, ?_⟩) ?_ ?_
               rotate_left
               ·
                intro w'
                go_simp
                with_reducible rfl
               rotate_left
               ·
                simp only [Act.put, zS, zT, zU, i64_w, i32_w]
                rfl
               refine done_ (done_of HT_.out zq3) ?_
               try go_wp2
               go_roundg k3
               case measure => have := HK1.out; have := HJ9.out; have := HK3.out; omega
               case rel => exact ⟨(wrap64 (x11_3 + 1)), (x165001_3), zq4, H', ⟨by have := HK1.out; have := HJ9.out; have := HK3.out; omega⟩, ⟨by (with_reducible repeat (first | apply zR | apply zV | apply zW)); exact HO_4.out⟩, ⟨by (with_reducible repeat (first | apply zR | apply zV | apply zW)); exact Kd.R_mono HO_5.out (fun _ hk => hk.1)⟩, ⟨by (with_reducible repeat (first | apply zR | apply zV | apply zW)); exact Kd.R_mono HO_9.out (fun _ hk => hk.1)⟩, ⟨by (with_reducible repeat (first | refine zM ?_ _ | refine zP ?_ | refine zQ ?_ _)); exact BK164.out⟩, ⟨by repeat (first | (with_reducible first | exact HB.out | apply zA | apply zN | apply zD | refine below_set ?_ GE164.out) | exact HB.out)⟩⟩
              rw [if_neg c28] at H
              exact absurd H zq16
             rw [if_neg c27] at H
             exact absurd H zq16
            rw [if_neg c26] at H
            exact absurd H zq16
           rw [if_neg c24] at H
           have c24b0 : decide (x11_3 < 4) = false := decide_eq_false c24
           clear c24
           by_cases c37 : x4_1.length < 3518437208883
           ·
            rw [if_pos c37] at H
            have LMc37 := zK c37
            clear c37
            obtain ⟨y170, hy170⟩ : ∃ y_ : List (S118), y_ = (x4_1 ++ [(⟨(rdOf ByteArray.empty t159 2), x165001_3, (rdOf ByteArray.empty t159 1)⟩ : S118)]) := ⟨_, rfl⟩
            replace H : (spec_l6Untree.l0 k3 y170 t152 (wrap64 (x6_1 + 1))) = some (r1, r2) := by first | (rw [hy170]; with_reducible exact H) | (have H2_ := (Option.bind_some _ _).symm.trans H; rw [hy170]; with_reducible exact H2_) | (have H2_ := (Option.bind_some _ _).symm.trans H; with_reducible exact H2_) | with_reducible exact H | (rw [hy170]; exact H) | exact H
            have Ny170 := zK hy170
            clear hy170
            have H' := zK H
            clear H
            have hcz38_0 : wr.cell? ⟨gb164, 0, none⟩ = some (.string (rdOf ByteArray.empty t159 2)) := (blk_cell BK164.out 0).trans rfl
            have hcz38_1 : wr.cell? ⟨gb164, 1, none⟩ = some (.int .i64 x165001_3) := (blk_cell BK164.out 1).trans rfl
            have hcz38_2 : wr.cell? ⟨gb164, 2, none⟩ = some (.string (rdOf ByteArray.empty t159 1)) := (blk_cell BK164.out 2).trans rfl
            have hfz38_0 := blk_frozen BK164.out 0
            have hfz38_1 := blk_frozen BK164.out 1
            have hfz38_2 := blk_frozen BK164.out 2
            go_wp2_with (first | ((with_reducible refine gate_builtin (b := .append) (xs := #[.tmp 59, .tmp 61]) rfl ?_); (try (refine gate_guard zq28 ?_; dsimp only)); at_builtin; refine Kd.R_append k118 (w0 := w) w.heap.size rfl (.tmp 59) (.tmp 61) 113 118 (.agg #[(.string ⟨#[]⟩), (.int .i64 0), (.string ⟨#[]⟩)]) 40 rfl Tryz.underlying113 info118 rfl zq13 zq7 u4 x4_1 (⟨(rdOf ByteArray.empty t159 2), x165001_3, (rdOf ByteArray.empty t159 1)⟩ : S118) [.string (rdOf ByteArray.empty t159 2), .int .i64 x165001_3, .string (rdOf ByteArray.empty t159 1)] (fun k_ => k_ ≠ gb164) (fun _ => False) rfl rfl ?aP (fun _ hk => hk.elim) ?aF ?aO ?aB ?aS ?aL ?_; (case aP => exact k118_mkM _ _ _ (⟨(rdOf ByteArray.empty t159 2), x165001_3, (rdOf ByteArray.empty t159 1)⟩ : S118)); (case aB => exact (by repeat (first | (with_reducible first | exact HB.out | apply zA | apply zN | apply zD | refine below_set ?_ GE164.out) | exact HB.out))); (case aF => exact (fun k_ hk => Kd.freshB (g := gb164) (o := .cells #[.string (rdOf ByteArray.empty t159 2), .int .i64 x165001_3, .string (rdOf ByteArray.empty t159 1)] 118 (0, 0)) (by (with_reducible repeat (first | refine zM ?_ _ | refine zP ?_ | refine zQ ?_ _)); exact BK164.out) k_ hk)); (case aO => exact zq10); (case aS => exact (below_size (by repeat (first | (with_reducible first | exact HB.out | apply zA | apply zN | apply zD | refine below_set ?_ GE164.out) | exact HB.out)))); (case aL => have := LMc37.out; omega); intro v171 w39 ho hb hg hat; rw [← Ny170.out] at ho; have n0_ := zK (Kd.R_over' zq17 (Kd.R_typed zq10) zq13 hg); have n1_ := zK (Kd.R_over' zq25 (Kd.R_typed zq10) zq13 hg); have n2_ := zK (blk_grown (g := gb164) (o := .cells #[.string (rdOf ByteArray.empty t159 2), .int .i64 x165001_3, .string (rdOf ByteArray.empty t159 1)] 118 (0, 0)) (by (with_reducible repeat (first | refine zM ?_ _ | refine zP ?_ | refine zQ ?_ _)); exact BK164.out) hg (Kd.R_away HO_4.out (fun _ hk => hk))); have n3_ := zK (hb); have n4_ := zK (ho); clear HO_5; clear HO_9; clear BK164; clear HB; clear HO_4; have HO_5 := n0_; have HO_9 := n1_; have BK164 := n2_; have HB := n3_; have HO172 := n4_; clear n0_ n1_ n2_ n3_ n4_; clear ho hb hg hat))
            go_roundg k3
            case measure => have := HK1.out; have := HJ9.out; have := HK3.out; omega
            case rel => exact ⟨(y170), (wrap64 (x6_1 + 1)), zq4, H', ⟨by have := HK1.out; have := HJ9.out; have := HK3.out; omega⟩, ⟨by (with_reducible repeat (first | apply zR | apply zV | apply zW)); exact Kd.R_mono HO172.out (fun _ hk => trivial)⟩, ⟨by (with_reducible repeat (first | apply zR | apply zV | apply zW)); exact Kd.R_mono HO_5.out (fun _ hk => trivial)⟩, ⟨by repeat (first | (with_reducible first | exact HB.out | apply zA | apply zN | apply zD | refine below_set ?_ GE164.out) | exact HB.out)⟩⟩
           rw [if_neg c37] at H
           exact absurd H zq16
        rw [if_neg c17] at H
        exact absurd H zq16
       rw [if_neg c16] at H
       exact absurd H zq16
    rw [if_neg c7] at H
    exact absurd H zq16
   rw [if_neg c6] at H
   have c6b0 : decide (x6_1 < (t152.length : Int)) = false := decide_eq_false c6
   clear c6
   replace H := Option.bind_eq_some_iff.mp H
   obtain ⟨t155, A400, H⟩ := H
   replace H : (some (x4_1, (t155 == 0))) = some (r1, r2) := H
   have A40 := zK A400
   clear A400
   simp only [Option.some.injEq, Prod.mk.injEq] at H
   obtain ⟨rfl, rfl⟩ := H
   obtain ⟨Ao41, co41, eo41⟩ := Kd.R_slice HO_5.out
   subst eo41
   obtain ⟨Ao42, co42, eo42⟩ := Kd.R_slice HO_4.out
   subst eo42
   go_wp2_with (first | ((with_reducible refine gate_callee (f := 171) rfl ?_); refine goesL_ (some 65) rfl rfl Tryz.func171 zq3 rfl #[.slice Ao42 x4_1.length co42] rfl zq1 ?_; (with_reducible refine (spec_TreeFault.calls k1 _ _ x4_1 t155 _ ?side1 ?side2 A40.out).mono ?_); (case side1 => repeat (first | exact (Kd.R_reads' HO_4.out).2.2 | (with_reducible refine Kd.C_alloc ?_ _) | (with_reducible refine Kd.C_drewN ?_ _) | (with_reducible refine Kd.C_drew ?_))); (case side2 => exact (Kd.R_reads' HO_4.out).2.1); rintro e w43 ⟨rfl, hb⟩; refine ⟨_, rfl, ?_⟩; have n0_ := zK (Kd.R_below zq10 hb); have n1_ := zK (Kd.R_below zq17 hb); have n2_ := zK (below_step zq0 hb); clear HO_4; clear HO_5; clear HB; have HO_4 := n0_; have HO_5 := n1_; have HB := n2_; clear n0_ n1_ n2_; (try clear hb); (try clear hb2); (try clear hk); (try clear hi)))
   go_ret2
   exact ⟨_, zq5, zq10, zq0⟩
end Go.Proofs.YtkjgnnhpjcofiaaGreatDoor.PX
