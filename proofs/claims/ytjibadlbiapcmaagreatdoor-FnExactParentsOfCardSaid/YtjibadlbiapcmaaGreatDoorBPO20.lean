/- Texts of this claim set one behind another by wip/bundle.py: XStS, PXf64, PXf24. -/
import Derived.Test.YtjibadlbiapcmaaGreatDoorBPO14
import Derived.Test.YtjibadlbiapcmaaGreatDoorBPO9
import Derived.Test.YtjibadlbiapcmaaGreatDoorBPO4
import Derived.Lib.Hide
import Derived.IntWalk
import Derived.Deep.RegionHeld3
import Derived.Deep.QuietTactic
import Derived.BigQuiet
import Derived.Test.YtjibadlbiapcmaaGreatDoorBPO15
namespace Go.Proofs.YtjibadlbiapcmaaGreatDoor.PX.X
open Go Go.RowKit Go.Lib Go.Proofs.YtjibadlbiapcmaaGreatDoorW.PrintWords Go.Proofs.YtjibadlbiapcmaaGreatDoorW.PrintLast Go.Proofs.YtjibadlbiapcmaaGreatDoorW.PrintMore
set_option linter.unusedVariables false
set_option linter.unusedSimpArgs false
section keeps
variable {a b c : Addr} {va vb vc : Value} {W w' w'' : World}
theorem keepO (h : w'.cell? a = some va ∧ w'.cell? b = some vb ∧ w'.cell? c = some vc ∧ Below W.heap.size W w') (hb : Below w'.heap.size w' w'') : w''.cell? a = some va ∧ w''.cell? b = some vb ∧ w''.cell? c = some vc ∧ Below W.heap.size W w'' :=
  ⟨(hb.cell (World.block_lt_of_cell? w' _ h.1)).trans h.1, (hb.cell (World.block_lt_of_cell? w' _ h.2.1)).trans h.2.1, (hb.cell (World.block_lt_of_cell? w' _ h.2.2.1)).trans h.2.2.1, h.2.2.2.trans (hb.mono h.2.2.2.size)⟩
theorem keepO_alloc (o : Obj) (h : w'.cell? a = some va ∧ w'.cell? b = some vb ∧ w'.cell? c = some vc ∧ Below W.heap.size W w') : (w'.alloc o).cell? a = some va ∧ (w'.alloc o).cell? b = some vb ∧ (w'.alloc o).cell? c = some vc ∧ Below W.heap.size W (w'.alloc o) :=
  keepO h ((Below.refl _ _).alloc (Nat.le_refl _) _)
theorem keepO_drew (h : w'.cell? a = some va ∧ w'.cell? b = some vb ∧ w'.cell? c = some vc ∧ Below W.heap.size W w') : w'.drew.cell? a = some va ∧ w'.drew.cell? b = some vb ∧ w'.drew.cell? c = some vc ∧ Below W.heap.size W w'.drew :=
  keepO h (below_drew1 (Below.refl _ _))
theorem keepO_drewN (n : Nat) (h : w'.cell? a = some va ∧ w'.cell? b = some vb ∧ w'.cell? c = some vc ∧ Below W.heap.size W w') : (w'.drewN n).cell? a = some va ∧ (w'.drewN n).cell? b = some vb ∧ (w'.drewN n).cell? c = some vc ∧ Below W.heap.size W (w'.drewN n) :=
  keepO h (pw_below_drewN (Below.refl _ _) n)
theorem keepO_set {g j : Nat} {v : Value} (hz : W.cell? a = some va ∧ W.cell? b = some vb ∧ W.cell? c = some vc ∧ Below W.heap.size W W) (h : w'.cell? a = some va ∧ w'.cell? b = some vb ∧ w'.cell? c = some vc ∧ Below W.heap.size W w') (hg : W.heap.size ≤ g) : (w'.setCell ⟨g, j, none⟩ v).cell? a = some va ∧ (w'.setCell ⟨g, j, none⟩ v).cell? b = some vb ∧ (w'.setCell ⟨g, j, none⟩ v).cell? c = some vc ∧ Below W.heap.size W (w'.setCell ⟨g, j, none⟩ v) :=
  ⟨(cell_far (p := ⟨g, j, none⟩) (Nat.ne_of_lt (Nat.lt_of_lt_of_le (World.block_lt_of_cell? W _ hz.1) hg)) v).trans h.1, (cell_far (p := ⟨g, j, none⟩) (Nat.ne_of_lt (Nat.lt_of_lt_of_le (World.block_lt_of_cell? W _ hz.2.1) hg)) v).trans h.2.1, (cell_far (p := ⟨g, j, none⟩) (Nat.ne_of_lt (Nat.lt_of_lt_of_le (World.block_lt_of_cell? W _ hz.2.2.1) hg)) v).trans h.2.2.1, below_set h.2.2.2 hg⟩
end keeps
end Go.Proofs.YtjibadlbiapcmaaGreatDoor.PX.X

namespace Go.Proofs.YtjibadlbiapcmaaGreatDoor.PX
open Go.RowKit Go.Proofs.YtjibadlbiapcmaaGreatDoorW.PrintWords Go.Proofs.YtjibadlbiapcmaaGreatDoorW.PrintLast Go.Proofs.YtjibadlbiapcmaaGreatDoorW.PrintMore
attribute [local go_sem] max2_int min2_int max_two min_two max_three min_three max_four min_four   -- for this text's walks alone
set_option linter.unusedVariables false
set_option linter.unusedSimpArgs false

/-! ### spec_StoreFault: function 64 -/
def spec_StoreFault.l0 : Nat → List (S96) → Int → Option (Int)
 | 0, _, _ => none
 | k + 1, x0, x3 => if x3 < (x0.length : Int) then (if 0 ≤ x3 then ((spec_IdOf.f k ((rd_T96 x0 x3).f1) ((rd_T96 x0 x3).f2)).bind fun bt125 => (if bt125.1 = 0 then (if bt125.2.toList = ((rd_T96 x0 x3).f0).toList then (if x3 > 0 then (if 0 ≤ (wrap64 (x3 - 1)) then (if (wrap64 (x3 - 1)) < (x0.length : Int) then (if ((Op.bytesLess (((rd_T96 x0 (wrap64 (x3 - 1))).f0).toList) (((rd_T96 x0 x3).f0).toList)) = true) then (spec_StoreFault.l0 k x0 (wrap64 (x3 + 1))) else (some 1)) else (none)) else (none)) else (spec_StoreFault.l0 k x0 (wrap64 (x3 + 1)))) else (some 1)) else (some bt125.1))) else (none)) else (some 0)
def spec_StoreFault.f (k : Nat) (l0 : List (S96)) : Option (Int) := if (l0.length : Int) > 200 then (some 2) else (spec_StoreFault.l0 k l0 0)
theorem spec_StoreFault.mono_l : ∀ k, (∀ y0 y1, LeO (spec_StoreFault.l0 k y0 y1) (spec_StoreFault.l0 (k + 1) y0 y1))
 | 0 => fun _ _ r h => by simp [spec_StoreFault.l0] at h
 | k + 1 => by
  have ih0 := spec_StoreFault.mono_l k
  intro y0 y1
  unfold spec_StoreFault.l0
  repeat' first
   | (with_reducible exact ih0 _ _)
   | (with_reducible exact spec_IdOf.mono _ _ _)
   | (with_reducible exact LeO.refl _)
   | (with_reducible exact LeO.none _)
   | (with_reducible refine LeO.ite ?_ ?_)
   | (with_reducible refine LeO.bind ?_ (fun _ => ?_))
theorem spec_StoreFault.mono : ∀ a0 k, LeO (spec_StoreFault.f k a0) (spec_StoreFault.f (k + 1) a0) := by
 intro a0 k
 unfold spec_StoreFault.f
 refine LeO.ite (LeO.refl _) (spec_StoreFault.mono_l k _ _)
set_option maxHeartbeats 1000000 in
set_option maxRecDepth 100000 in
theorem spec_StoreFault.calls (k : Nat) (A0 : Option Addr) (c0 : Nat) (l0 : List (S96)) (r : Int) (w : World) (hr0 : Kd.C k96 w A0 l0.length l0) (hc0 : l0.length ≤ c0) (h : spec_StoreFault.f k l0 = some r) :
  Calls Tryz.prog 64 #[.slice A0 l0.length c0] w fun e w' => e = .returned (.int .i64 r) ∧ Below w.heap.size w w' := by
 have HR := Lib.hid hr0
 clear hr0 hc0
 unfold spec_StoreFault.f at h
 by_cases c2 : (l0.length : Int) > 200
 ·
  rw [if_pos c2] at h
  obtain rfl := Option.some.inj h
  go_enter Tryz.func64, Tryz.ntmps64
  go_wp2
  go_ret
  exact ⟨rfl, Below.refl _ _⟩
 rw [if_neg c2] at h
 have H0 := Lib.hid h
 clear h
 have hu := Tryz.underlying135
 go_enter Tryz.func64, Tryz.ntmps64
 go_wp2
 go_loopg [3] k (fun kq v3 wr => ∃ i : Nat, v3 = .int .i64 i ∧ i ≤ l0.length ∧ Aside (spec_StoreFault.l0 kq l0 i = some r) ∧ Aside (Below w.heap.size w wr))
 case atStart => exact ⟨0, rfl, Nat.zero_le _, H0.out, Below.refl _ w⟩
 case round =>
  clear H0
  obtain ⟨i, rfl, hi, HA, HB⟩ := hrel
  cases gk with
  | zero => exact absurd HA.out (by simp [spec_StoreFault.l0])
  | succ k1 =>
   have H := HA.out
   clear HA
   simp only [spec_StoreFault.l0] at H
   by_cases c3 : (i : Int) < (l0.length : Int)
   ·
    have c4 : (0 : Int) ≤ (i : Int) := Int.natCast_nonneg i
    rw [if_pos c3, if_pos c4] at H
    obtain ⟨⟨t, s⟩, A5, H⟩ := Option.bind_eq_some_iff.mp H
    obtain ⟨ad, rfl, q0, q1, q2⟩ := at_T96 (Kd.C_below HR.out HB.out) (i : Int) c4 c3
    have hw : wrap64 ((i : Int) + 1) = ((i + 1 : Nat) : Int) := (YtjibadlbiapcmaaGreatDoorX.wrap_in (by omega) (by omega)).trans (by omega)
    rw [Int.toNat_natCast] at q0 q1 q2
    obtain ⟨x, hx⟩ : ∃ x, rd_T96 l0 (i : Int) = x := ⟨_, rfl⟩
    rw [hx] at A5 q0 q1 q2 H
    have HX := Lib.hid hx
    have H5 := Lib.hid A5
    have HH := Lib.hid H
    have HW := Lib.hid hw
    clear A5 H hx hw
    go_wp2
    have hK0 : wr.cell? (ad.add (i * 3)) = some (.string x.f0) ∧ wr.cell? ⟨(ad.add (i * 3)).block, (ad.add (i * 3)).off + 1, none⟩ = some (.int .i64 x.f1) ∧ wr.cell? ⟨(ad.add (i * 3)).block, (ad.add (i * 3)).off + 2, none⟩ = some (.string x.f2) ∧ Below wr.heap.size wr wr := ⟨q0, q1, q2, Below.refl _ _⟩
    go_region_held3 (fun w' => w'.cell? (ad.add (i * 3)) = some (.string x.f0) ∧ w'.cell? ⟨(ad.add (i * 3)).block, (ad.add (i * 3)).off + 1, none⟩ = some (.int .i64 x.f1) ∧ w'.cell? ⟨(ad.add (i * 3)).block, (ad.add (i * 3)).off + 2, none⟩ = some (.string x.f2) ∧ Below wr.heap.size wr w') (with_reducible repeat (first | assumption | exact hK0 | (refine X.keepO ?_ hb) | apply X.keepO_alloc | apply X.keepO_drewN | apply X.keepO_drew | (refine X.keepO_set hK0 ?_ (by first | exact Nat.le_refl _ | exact hb.size | (exact (hHeld.2.2.2).size)))))
     (first
      | (go_at_call 105; (with_reducible refine (spec_IdOf.calls k1 x.f1 x.f2 t s _ H5.out).mono ?_); rintro e w' ⟨rfl, hb⟩; (try (have hbx := blk_below (zP (blk_new wr (.cells #[.int .i64 0, .string ⟨#[]⟩] 135 (0, 0)))) hb; have y0 : w'.cell? ⟨wr.heap.size, 0, none⟩ = some (.int .i64 0) := (blk_cell hbx 0).trans rfl; have y1 : w'.cell? ⟨wr.heap.size, 1, none⟩ = some (.string ⟨#[]⟩) := (blk_cell hbx 1).trans rfl; have f0 := blk_frozen hbx 0; have f1 := blk_frozen hbx 1))))
    all_goals (
     rename_i hHeld
     first
      | (have hbk := blk_put (blk_put hbx 0 (.int .i64 t) rfl) 1 (.string s) rfl; have hgb := Nat.le_refl wr.heap.size; generalize hgg : wr.heap.size = gb at hgb hbk hHeld ⊢; rw [← hgg] at hgb; generalize ((w'.setCell ⟨gb, 0, none⟩ (.int .i64 t)).setCell ⟨gb, 1, none⟩ (.string s)) = W3 at hbk hHeld ⊢; rw [← hgg] at hHeld)
      | (have hbk := blk_new w' (.cells #[.int .i64 t, .string s] 135 (0, 0)); have hgb : wr.heap.size ≤ w'.heap.size := hb.size; generalize w'.alloc (.cells #[.int .i64 t, .string s] 135 (0, 0)) = W3 at hbk hHeld ⊢; generalize w'.heap.size = gb at hgb hbk ⊢)
     clear hb
     obtain ⟨z0, z1, z2, hB3⟩ := hHeld
     have g0 : W3.cell? ⟨gb, 0, none⟩ = some (.int .i64 t) := (blk_cell hbk 0).trans rfl
     have g1 : W3.cell? ⟨gb, 1, none⟩ = some (.string s) := (blk_cell hbk 1).trans rfl
     have B3 := Lib.hid (HB.out.trans (hB3.mono HB.out.size))
     clear hB3 hbk hK0 q0 q1 q2 z1 z2
     by_cases ht : t = 0
     ·
      have H := HH.out
      rw [if_pos ht] at H
      subst ht
      by_cases hs : s.toList = x.f0.toList
      ·
       rw [if_pos hs] at H
       have hsb : (s.toList == x.f0.toList) = true := beq_iff_eq.mpr hs
       have hsb2 : (s.toList != x.f0.toList) = false := bne_eq_false_iff_eq.mpr hs
       by_cases hp : (i : Int) > 0
       ·
        obtain ⟨m, hm⟩ : ∃ m : Nat, i = m + 1 := ⟨i - 1, by omega⟩
        have hws : wrap64 ((i : Int) - 1) = (m : Int) := (YtjibadlbiapcmaaGreatDoorX.wrap_in (by omega) (by omega)).trans (by omega)
        have hwi : IntKind.i64.wrap ((i : Int) - 1) = (m : Int) := (i64_w _).trans hws
        have hp0 : 0 < i := by omega
        have hp1 : decide ((0 : Int) < (i : Int)) = true := decide_eq_true hp
        have hm0 : (0 : Int) ≤ (m : Int) := Int.natCast_nonneg m
        have hml : (m : Int) < (l0.length : Int) := by omega
        obtain ⟨a3, e3, r0, _, _⟩ := at_T96 (Kd.C_below HR.out B3.out) (m : Int) hm0 hml
        obtain rfl : ad = a3 := Option.some.inj e3
        rw [Int.toNat_natCast] at r0
        rw [if_pos hp, hws, if_pos hm0, if_pos hml] at H
        generalize rd_T96 l0 (m : Int) = y at r0 H
        have HM := Lib.hid hm
        clear hs hws hm
        cases hl : Op.bytesLess y.f0.toList x.f0.toList with
        | true =>
         rw [hl, if_pos rfl] at H
         rw [HW.out] at H
         have H7 := Lib.hid H
         clear H HH
         go_wp2
         go_quiet (fail)
         have B4 := Lib.hid (show Below w.heap.size w (W3.drewN nq) from zN B3.out nq)
         generalize W3.drewN nq = W4 at B4 ⊢
         clear z0 g0 g1
         go_wp2
         go_roundg k1
         case measure => omega
         case rel => exact ⟨i + 1, by go_num, by omega, H7.out, B4.out⟩
        | false =>
         rw [hl, if_neg (by decide)] at H
         obtain rfl := Option.some.inj H
         clear H HH
         go_wp2
         go_quiet (fail)
         have B4 := Lib.hid (show Below w.heap.size w (W3.drewN nq) from zN B3.out nq)
         generalize W3.drewN nq = W4 at B4 ⊢
         clear z0 g0 g1
         go_wp2
         go_ret
         exact ⟨rfl, B4.out⟩
       ·
        rw [if_neg hp] at H
        have hp1 : decide ((0 : Int) < (i : Int)) = false := decide_eq_false hp
        have hp0 : ¬ 0 < i := by omega
        have hp2 : decide (0 < i) = false := decide_eq_false hp0
        clear hs
        rw [HW.out] at H
        have H7 := Lib.hid H
        clear H HH
        go_wp2
        go_quiet (fail)
        have B4 := Lib.hid (show Below w.heap.size w (W3.drewN nq) from zN B3.out nq)
        generalize W3.drewN nq = W4 at B4 ⊢
        clear z0 g0 g1
        go_wp2
        go_roundg k1
        case measure => omega
        case rel => exact ⟨i + 1, by go_num, by omega, H7.out, B4.out⟩
      ·
       rw [if_neg hs] at H
       have hsb : (s.toList == x.f0.toList) = false := beq_eq_false_iff_ne.mpr hs
       have hsb2 : (s.toList != x.f0.toList) = true := bne_iff_ne.mpr hs
       clear hs
       obtain rfl := Option.some.inj H
       clear H HH
       go_wp2
       go_quiet (fail)
       have B4 := Lib.hid (show Below w.heap.size w (W3.drewN nq) from zN B3.out nq)
       generalize W3.drewN nq = W4 at B4 ⊢
       clear z0 g0 g1
       go_wp2
       go_ret
       exact ⟨rfl, B4.out⟩
     ·
      have H := HH.out
      rw [if_neg ht] at H
      obtain rfl := Option.some.inj H
      have hb1 : (t != 0) = true := bne_iff_ne.mpr ht
      have hb2 : (t == 0) = false := beq_eq_false_iff_ne.mpr ht
      clear H HH
      go_wp2
      go_ret
      exact ⟨rfl, B3.out⟩)
   ·
    rw [if_neg c3] at H
    obtain rfl := Option.some.inj H
    clear H
    go_wp2
    go_ret
    exact ⟨rfl, HB.out⟩


/-! ### spec_ParentsOf: function 24 -/
def spec_ParentsOf.f (k : Nat) (l0 : List (S96)) (a1 : ByteArray) : Option (Int × List ByteArray) := (spec_StoreFault.f k l0).bind fun t173 => (if t173 = 0 then ((spec_l9Commit.f k l0 a1).bind fun bt174 => (some (bt174.2.2.2.2, bt174.2.1))) else (some (t173, ([] : List ByteArray))))
theorem spec_ParentsOf.mono : ∀ a0 a1 k, LeO (spec_ParentsOf.f k a0 a1) (spec_ParentsOf.f (k + 1) a0 a1) := by
 intro a0 a1 k
 unfold spec_ParentsOf.f
 repeat' first
   | (with_reducible exact spec_StoreFault.mono _ _)
   | (with_reducible exact spec_l9Commit.mono _ _ _)
   | (with_reducible exact LeO.refl _)
   | (with_reducible exact LeO.none _)
   | (with_reducible refine LeO.ite ?_ ?_)
   | (with_reducible refine LeO.bind ?_ (fun _ => ?_))
   | exact spec_StoreFault.mono _ _
   | exact spec_l9Commit.mono _ _ _
   | exact LeO.none _
   | refine LeO.ite ?_ ?_
   | refine LeO.bind ?_ (fun _ => ?_)
set_option maxHeartbeats 8000000 in
set_option maxRecDepth 100000 in
theorem spec_ParentsOf.calls (k : Nat) (A0 : Option Addr) (c0 : Nat) (l0 : List (S96)) (a1 : ByteArray) (r1 : Int) (r2 : List ByteArray) (w : World) (hr0 : Kd.C k96 w A0 l0.length l0) (hc0 : l0.length ≤ c0) (h : spec_ParentsOf.f k l0 a1 = some (r1, r2)) :
  Calls Tryz.prog 24 #[.slice A0 l0.length c0, .string a1] w fun e w' => ∃ v1_ : Value, e = .returned (.agg #[.int .i64 r1, v1_]) ∧ Kd.R Kd.string 9 w' w.heap.size (fun _ => True) v1_ r2 ∧ Below w.heap.size w w' := by
 have hu47 := Tryz.underlying47
 have hu37 := Tryz.underlying37
 have HR0 := zK hr0
 have HC0 := zK hc0
 clear hr0 hc0
 have HB := zK (Below.refl w.heap.size w)
 have H : ((spec_StoreFault.f k l0).bind fun t173 => (if t173 = 0 then ((spec_l9Commit.f k l0 a1).bind fun bt174 => (some (bt174.2.2.2.2, bt174.2.1))) else (some (t173, ([] : List ByteArray))))) = some (r1, r2) := h
 clear h
 replace H := Option.bind_eq_some_iff.mp H
 obtain ⟨t173, A30, H⟩ := H
 replace H : (if t173 = 0 then ((spec_l9Commit.f k l0 a1).bind fun bt174 => (some (bt174.2.2.2.2, bt174.2.1))) else (some (t173, ([] : List ByteArray)))) = some (r1, r2) := H
 have A3 := zK A30
 clear A30
 by_cases c4 : t173 = 0
 ·
  rw [if_pos c4] at H
  have c4b0 : (t173 == 0) = true := beq_iff_eq.mpr c4
  have c4b1 : (t173 != 0) = false := bne_eq_false_iff_eq.mpr c4
  clear c4
  replace H := Option.bind_eq_some_iff.mp H
  obtain ⟨⟨t174, t175, t178, t179, t180⟩, A50, H⟩ := H
  replace H : (some (t180, t175)) = some (r1, r2) := H
  have A5 := zK A50
  clear A50
  simp only [Option.some.injEq, Prod.mk.injEq] at H
  obtain ⟨rfl, rfl⟩ := H
  go_enter Tryz.func24, Tryz.ntmps24
  go_wp2_with (first | ((with_reducible refine gate_dst (N := 4) rfl ?_); refine box_event ?hg (N := 4) ?hd (cs := #[.int .i64 0, .slice none 0 0]) (t := 47) ?hr ?_; (case hd => rfl); (case hg => rfl); (case hr => first | (go_simp; done) | (go_simp; rfl)); intro gb172 hg w6 hbox hb; have n0_ := zK (below_step (by repeat (first | (with_reducible first | exact HB.out | apply zA | apply zN | apply zD) | exact HB.out)) hb); have n1_ := zK (hbox); have n2_ := zK ((by rw [hg]; exact (below_size (by repeat (first | (with_reducible first | exact HB.out | apply zA | apply zN | apply zD) | exact HB.out))) : w.heap.size ≤ gb172)); have n3_ := zK ((by rw [hg]; exact (below_size (by repeat (first | (with_reducible first | exact HB.out | apply zA | apply zN | apply zD) | exact HB.out))) : w.heap.size ≤ gb172)); clear HB; have HB := n0_; have BK172 := n1_; have GW172 := n2_; have GE172 := n3_; clear n0_ n1_ n2_ n3_; clear hb hbox hg) | ((with_reducible refine gate_callee (f := 64) rfl ?_); refine goesL_ (some 9) rfl rfl Tryz.func64 (by kernel_rfl) rfl #[.slice A0 l0.length c0] rfl (by (try simp only [List.map_toArray, List.map_cons, List.map_nil]); first | done | rfl | (simp only [List.length_drop, List.length_take]; rfl)) ?_; (with_reducible refine (spec_StoreFault.calls k _ _ l0 t173 _ ?side1 ?side2 A3.out).mono ?_); (case side1 => repeat (first | exact (Kd.C_below HR0.out HB.out) | (with_reducible refine Kd.C_alloc ?_ _) | (with_reducible refine Kd.C_drewN ?_ _) | (with_reducible refine Kd.C_drew ?_))); (case side2 => exact HC0.out); rintro e w7 ⟨rfl, hb⟩; refine ⟨_, rfl, ?_⟩; have n0_ := zK (blk_below (g := gb172) (o := .cells #[.int .i64 0, .slice none 0 0] 47 (0, 0)) (by (with_reducible repeat (first | refine zM ?_ _ | refine zP ?_ | refine zQ ?_ _)); exact BK172.out) hb); have n1_ := zK (below_step (by repeat (first | (with_reducible first | exact HB.out | apply zA | apply zN | apply zD | refine below_set ?_ GE172.out) | exact HB.out)) hb); clear BK172; clear HB; have BK172 := n0_; have HB := n1_; clear n0_ n1_; (try clear hb); (try clear hb2); (try clear hk); (try clear hi)) | ((with_reducible refine gate_callee (f := 65) rfl ?_); refine goesL_ (some 17) rfl rfl Tryz.func65 (by kernel_rfl) rfl #[.slice A0 l0.length c0, .string a1] rfl (by (try simp only [List.map_toArray, List.map_cons, List.map_nil]); first | done | rfl | (simp only [List.length_drop, List.length_take]; rfl)) ?_; (with_reducible refine (spec_l9Commit.calls k _ _ l0 a1 t174 t175 t178 t179 t180 _ ?side1 ?side2 A5.out).mono ?_); (case side1 => repeat (first | exact (Kd.C_below HR0.out HB.out) | (with_reducible refine Kd.C_alloc ?_ _) | (with_reducible refine Kd.C_drewN ?_ _) | (with_reducible refine Kd.C_drew ?_))); (case side2 => exact HC0.out); rintro e w8 ⟨v176, rfl, ho0, hb⟩; refine ⟨_, rfl, ?_⟩; have n0_ := zK (Kd.R_lower ho0 (below_size (by repeat (first | (with_reducible first | exact HB.out | apply zA | apply zN | apply zD | refine below_set ?_ GE172.out) | exact HB.out)))); have n1_ := zK (blk_below (g := gb172) (o := .cells #[.int .i64 0, .slice none 0 0] 47 (0, 0)) (by (with_reducible repeat (first | refine zM ?_ _ | refine zP ?_ | refine zQ ?_ _)); exact BK172.out) hb); have n2_ := zK (below_step (by repeat (first | (with_reducible first | exact HB.out | apply zA | apply zN | apply zD | refine below_set ?_ GE172.out) | exact HB.out)) hb); clear BK172; clear HB; have HO177 := n0_; have BK172 := n1_; have HB := n2_; clear n0_ n1_ n2_; (try clear hb); (try clear hb2); (try clear hk); (try clear hi); (try clear ho0)) | ((with_reducible refine gate_dst (N := 6) rfl ?_); refine box_event ?hg (N := 6) ?hd (cs := #[.string (⟨#[]⟩ : ByteArray), .slice none 0 0, .int .i64 0, .string (⟨#[]⟩ : ByteArray)]) (t := 37) ?hr ?_; (case hd => rfl); (case hg => rfl); (case hr => first | (go_simp; done) | (go_simp; rfl)); intro gb181 hg w9 hbox hb; have n0_ := zK (Kd.R_below (by (with_reducible repeat (first | apply zR | apply zV | apply zW)); exact HO177.out) hb); have n1_ := zK (blk_below (g := gb172) (o := .cells #[.int .i64 0, .slice none 0 0] 47 (0, 0)) (by (with_reducible repeat (first | refine zM ?_ _ | refine zP ?_ | refine zQ ?_ _)); exact BK172.out) hb); have n2_ := zK (below_step (by repeat (first | (with_reducible first | exact HB.out | apply zA | apply zN | apply zD | refine below_set ?_ GE172.out) | exact HB.out)) hb); have n3_ := zK (hbox); have n4_ := zK ((by rw [hg]; exact (below_size (by repeat (first | (with_reducible first | exact HB.out | apply zA | apply zN | apply zD | refine below_set ?_ GE172.out) | exact HB.out))) : w.heap.size ≤ gb181)); have n5_ := zK ((by rw [hg]; exact (below_size (by repeat (first | (with_reducible first | exact HB.out | apply zA | apply zN | apply zD | refine below_set ?_ GE172.out) | exact HB.out))) : w.heap.size ≤ gb181)); have n6_ := zK ((by rw [hg]; exact Nat.ne_of_lt (blk_lt (g := gb172) (o := .cells #[.int .i64 0, .slice none 0 0] 47 (0, 0)) (by (with_reducible repeat (first | refine zM ?_ _ | refine zP ?_ | refine zQ ?_ _)); exact BK172.out)) : gb172 ≠ gb181)); have n7_ := zK ((by rw [hg]; exact Nat.ne_of_gt (blk_lt (g := gb172) (o := .cells #[.int .i64 0, .slice none 0 0] 47 (0, 0)) (by (with_reducible repeat (first | refine zM ?_ _ | refine zP ?_ | refine zQ ?_ _)); exact BK172.out)) : gb181 ≠ gb172)); clear HO177; clear BK172; clear HB; have HO177 := n0_; have BK172 := n1_; have HB := n2_; have BK181 := n3_; have GW181 := n4_; have GE181 := n5_; have NB172_181 := n6_; have NB181_172 := n7_; clear n0_ n1_ n2_ n3_ n4_ n5_ n6_ n7_; clear hb hbox hg; have hnb10 := NB181_172.out; have hnc10 := NB172_181.out; have hcz11_0 : w9.cell? ⟨gb181, 0, none⟩ = some (.string (⟨#[]⟩ : ByteArray)) := (blk_cell BK181.out 0).trans rfl; have hcz11_1 : w9.cell? ⟨gb181, 1, none⟩ = some (.slice none 0 0) := (blk_cell BK181.out 1).trans rfl; have hcz11_2 : w9.cell? ⟨gb181, 2, none⟩ = some (.int .i64 0) := (blk_cell BK181.out 2).trans rfl; have hcz11_3 : w9.cell? ⟨gb181, 3, none⟩ = some (.string (⟨#[]⟩ : ByteArray)) := (blk_cell BK181.out 3).trans rfl; have hfz11_0 := blk_frozen BK181.out 0; have hfz11_1 := blk_frozen BK181.out 1; have hfz11_2 := blk_frozen BK181.out 2; have hfz11_3 := blk_frozen BK181.out 3; obtain ⟨Ao12, co12, eo12⟩ := Kd.R_slice HO177.out; subst eo12; have hcz13_0 : w9.cell? ⟨gb172, 0, none⟩ = some (.int .i64 0) := (blk_cell BK172.out 0).trans rfl; have hcz13_1 : w9.cell? ⟨gb172, 1, none⟩ = some (.slice none 0 0) := (blk_cell BK172.out 1).trans rfl; have hfz13_0 := blk_frozen BK172.out 0; have hfz13_1 := blk_frozen BK172.out 1))
  refine bodyPost_ret (results_cell_row rfl _ _ gb172 47 #[.int .i64 t180, .slice Ao12 t175.length co12] (0, 0) _ rfl (by (with_reducible repeat (first | refine zM ?_ _ | refine zP ?_ | refine zQ ?_ _)); refine blk_put (cs := #[.int .i64 t180, .slice none 0 0]) ?_ 1 _ rfl; (with_reducible repeat (first | refine zM ?_ _ | refine zP ?_ | refine zQ ?_ _)); refine blk_put (cs := #[.int .i64 0, .slice none 0 0]) ?_ 0 _ rfl; (with_reducible repeat (first | refine zM ?_ _ | refine zP ?_ | refine zQ ?_ _)); refine blk_far ?_ NB172_181.out _; (with_reducible repeat (first | refine zM ?_ _ | refine zP ?_ | refine zQ ?_ _)); refine blk_far ?_ NB172_181.out _; (with_reducible repeat (first | refine zM ?_ _ | refine zP ?_ | refine zQ ?_ _)); refine blk_far ?_ NB172_181.out _; (with_reducible repeat (first | refine zM ?_ _ | refine zP ?_ | refine zQ ?_ _)); refine blk_far ?_ NB172_181.out _; (with_reducible repeat (first | refine zM ?_ _ | refine zP ?_ | refine zQ ?_ _)); exact BK172.out) Tryz.underlying47 rfl (by kernel_rfl)) rfl ?_
  exact ⟨_, by first | rfl | (simp [errW_none, errW_some] <;> rfl) | (simp [*, errW_none, errW_some] <;> rfl), by (with_reducible repeat (first | apply zR | apply zV | apply zW)); exact Kd.R_mono (Kd.R_far (p := ⟨gb172, 1, none⟩) (Kd.R_far (p := ⟨gb172, 0, none⟩) (Kd.R_far (p := ⟨gb181, 3, none⟩) (Kd.R_far (p := ⟨gb181, 2, none⟩) (Kd.R_far (p := ⟨gb181, 1, none⟩) (Kd.R_far (p := ⟨gb181, 0, none⟩) (Kd.R_types (Kd.R_types HO177.out BK181.out (by decide)) BK172.out (by decide)) (fun _ hk => hk.1.2) (.string t174)) (fun _ hk => hk.1.2) (.slice Ao12 t175.length co12)) (fun _ hk => hk.1.2) (.int .i64 t178)) (fun _ hk => hk.1.2) (.string t179)) (fun _ hk => hk.2) (.int .i64 t180)) (fun _ hk => hk.2) (.slice Ao12 t175.length co12)) (fun _ hk => trivial), by repeat (first | (with_reducible first | exact HB.out | apply zA | apply zN | apply zD | refine below_set ?_ GE172.out | refine below_set ?_ GE181.out) | exact HB.out)⟩
 ·
  rw [if_neg c4] at H
  have c4b0 : (t173 == 0) = false := beq_eq_false_iff_ne.mpr c4
  have c4b1 : (t173 != 0) = true := bne_iff_ne.mpr c4
  simp only [Option.some.injEq, Prod.mk.injEq] at H
  obtain ⟨rfl, rfl⟩ := H
  go_enter Tryz.func24, Tryz.ntmps24
  go_wp2_with (first | ((with_reducible refine gate_dst (N := 4) rfl ?_); refine box_event ?hg (N := 4) ?hd (cs := #[.int .i64 0, .slice none 0 0]) (t := 47) ?hr ?_; (case hd => rfl); (case hg => rfl); (case hr => first | (go_simp; done) | (go_simp; rfl)); intro gb172 hg w14 hbox hb; have n0_ := zK (below_step (by repeat (first | (with_reducible first | exact HB.out | apply zA | apply zN | apply zD) | exact HB.out)) hb); have n1_ := zK (hbox); have n2_ := zK ((by rw [hg]; exact (below_size (by repeat (first | (with_reducible first | exact HB.out | apply zA | apply zN | apply zD) | exact HB.out))) : w.heap.size ≤ gb172)); have n3_ := zK ((by rw [hg]; exact (below_size (by repeat (first | (with_reducible first | exact HB.out | apply zA | apply zN | apply zD) | exact HB.out))) : w.heap.size ≤ gb172)); clear HB; have HB := n0_; have BK172 := n1_; have GW172 := n2_; have GE172 := n3_; clear n0_ n1_ n2_ n3_; clear hb hbox hg) | ((with_reducible refine gate_callee (f := 64) rfl ?_); refine goesL_ (some 9) rfl rfl Tryz.func64 (by kernel_rfl) rfl #[.slice A0 l0.length c0] rfl (by (try simp only [List.map_toArray, List.map_cons, List.map_nil]); first | done | rfl | (simp only [List.length_drop, List.length_take]; rfl)) ?_; (with_reducible refine (spec_StoreFault.calls k _ _ l0 t173 _ ?side1 ?side2 A3.out).mono ?_); (case side1 => repeat (first | exact (Kd.C_below HR0.out HB.out) | (with_reducible refine Kd.C_alloc ?_ _) | (with_reducible refine Kd.C_drewN ?_ _) | (with_reducible refine Kd.C_drew ?_))); (case side2 => exact HC0.out); rintro e w15 ⟨rfl, hb⟩; refine ⟨_, rfl, ?_⟩; have n0_ := zK (blk_below (g := gb172) (o := .cells #[.int .i64 0, .slice none 0 0] 47 (0, 0)) (by (with_reducible repeat (first | refine zM ?_ _ | refine zP ?_ | refine zQ ?_ _)); exact BK172.out) hb); have n1_ := zK (below_step (by repeat (first | (with_reducible first | exact HB.out | apply zA | apply zN | apply zD | refine below_set ?_ GE172.out) | exact HB.out)) hb); clear BK172; clear HB; have BK172 := n0_; have HB := n1_; clear n0_ n1_; (try clear hb); (try clear hb2); (try clear hk); (try clear hi); have hcz16_0 : w15.cell? ⟨gb172, 0, none⟩ = some (.int .i64 0) := (blk_cell BK172.out 0).trans rfl; have hcz16_1 : w15.cell? ⟨gb172, 1, none⟩ = some (.slice none 0 0) := (blk_cell BK172.out 1).trans rfl; have hfz16_0 := blk_frozen BK172.out 0; have hfz16_1 := blk_frozen BK172.out 1))
  refine bodyPost_ret (results_cell_row rfl _ _ gb172 47 #[.int .i64 t173, .slice none 0 0] (0, 0) _ rfl (by (with_reducible repeat (first | refine zM ?_ _ | refine zP ?_ | refine zQ ?_ _)); refine blk_put (cs := #[.int .i64 t173, .slice none 0 0]) ?_ 1 _ rfl; (with_reducible repeat (first | refine zM ?_ _ | refine zP ?_ | refine zQ ?_ _)); refine blk_put (cs := #[.int .i64 0, .slice none 0 0]) ?_ 0 _ rfl; (with_reducible repeat (first | refine zM ?_ _ | refine zP ?_ | refine zQ ?_ _)); exact BK172.out) Tryz.underlying47 rfl (by kernel_rfl)) rfl ?_
  exact ⟨_, by first | rfl | (simp [errW_none, errW_some] <;> rfl) | (simp [*, errW_none, errW_some] <;> rfl), by first | exact Kd.R_nil _ _ _ _ _ | exact Kd.N_nil _ _ _ _ _ | exact Kd.V_nil _ _ _ _ _ | exact Kd.Q_nil _ _ _ _ _ | exact Kd.S_nil _ _ _ _ _, by repeat (first | (with_reducible first | exact HB.out | apply zA | apply zN | apply zD | refine below_set ?_ GE172.out) | exact HB.out)⟩

end Go.Proofs.YtjibadlbiapcmaaGreatDoor.PX
