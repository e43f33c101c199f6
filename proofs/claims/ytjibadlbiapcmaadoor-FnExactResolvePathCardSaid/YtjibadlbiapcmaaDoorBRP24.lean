/- Texts of this claim set one behind another by wip/bundle.py: PXf102, PXf54, XPath, XMode, XEnt, XEntMark. -/
import Derived.Test.YtjibadlbiapcmaaDoorBRP12
import Derived.Test.YtjibadlbiapcmaaDoorBRP13
import Derived.Test.YtjibadlbiapcmaaDoorBRP20
import Derived.Test.YtjibadlbiapcmaaDoorBRP2
import Derived.Test.YtjibadlbiapcmaaDoorBRP21
import Derived.Test.YtjibadlbiapcmaaDoorBRP7
namespace Go.Proofs.YtjibadlbiapcmaaDoor.PX
open Go.RowKit Go.Proofs.YtjibadlbiapcmaaDoorW.PrintWords Go.Proofs.YtjibadlbiapcmaaDoorW.PrintLast Go.Proofs.YtjibadlbiapcmaaDoorW.PrintMore
attribute [local go_sem] max2_int min2_int max_two min_two max_three min_three max_four min_four   -- for this text's walks alone
set_option linter.unusedVariables false
set_option linter.unusedSimpArgs false

/-! ### impl_PathFault: function 102 -/
def impl_PathFault.pieces (a0 : ByteArray) : List ByteArray := Lib.splitB ⟨#[47]⟩ 0 (Lib.countB a0 ⟨#[47]⟩) a0
def impl_PathFault.bad (x : ByteArray) : Bool := !YtjibadlbiapcmaaDoorX.nameM x.data.toList
def impl_PathFault.v (a0 : ByteArray) : Int := if (impl_PathFault.pieces a0).length ≤ 4 then (if (impl_PathFault.pieces a0).any impl_PathFault.bad then 1 else 0) else 1
def impl_PathFault.f (a0 : ByteArray) : Option Int := if a0.size < 4294967281 then some (impl_PathFault.v a0) else none
theorem impl_PathFault.lit (W : World) (x : ByteArray) : Calls Tryd.prog 149 #[.string x] W fun e w' => e = .returned (.bool (impl_PathFault.bad x)) ∧ ∃ q, w' = W.drewN q := by
 have hc : impl_NameFault.f (x.size + 20) x = some (if YtjibadlbiapcmaaDoorX.nameM x.data.toList = true then 0 else 1) := YtjibadlbiapcmaaDoorX.impl_name x _ (by omega)
 unfold impl_PathFault.bad
 cases hn : YtjibadlbiapcmaaDoorX.nameM x.data.toList <;> rw [hn] at hc <;> simp only [Bool.false_eq_true, if_false, if_true] at hc
 all_goals
  have HC := impl_NameFault.calls (x.size + 20) x _ W hc
  clear hc hn
  go_enter Tryd.func149, Tryd.ntmps149
  go_wp2_with (go_at_call 150; refine HC.mono ?_; rintro e w' ⟨rfl, ⟨q, rfl⟩⟩)
  go_ret
  exact ⟨rfl, _, rfl⟩
set_option maxHeartbeats 1000000 in
theorem impl_PathFault.split (s : ByteArray) (w : World) (hs : s.size < 4294967281) :
  Calls Tryd.prog 147 #[.string s, .string ⟨#[47]⟩] w fun e w' => e = .returned (.slice (some ⟨w.heap.size, 0, none⟩) (impl_PathFault.pieces s).length (impl_PathFault.pieces s).length) ∧ w' = w.alloc (.cells ((impl_PathFault.pieces s).map Value.string).toArray 9) := by
 have HC := Lib.hid (X.genSplit_one s ⟨#[47]⟩ 0 w rfl (by decide) hs)
 clear hs
 unfold impl_PathFault.pieces
 go_enter Tryd.func147, Tryd.ntmps147
 go_wp2_with (go_at_call 172; refine HC.out.mono ?_; rintro e w' ⟨rfl, rfl⟩)
 go_ret
 exact ⟨rfl, rfl⟩
theorem impl_PathFault.eg (args : Array Value) (w : World) : (callFunc 149 args).run Tryd.prog w = .ok (.enter 149 args) w := enters_of Tryd.func149 (by kernel_rfl) rfl args w
theorem impl_PathFault.anyOf (l : List ByteArray) (w w0 : World) (hl : l.length ≤ 9223372036854775807) (hw : w = w0.alloc (.cells (l.map Value.string).toArray 9)) :
  Calls Tryd.prog 148 #[.slice (some ⟨w0.heap.size, 0, none⟩) l.length l.length, .func (.func 149) #[] #[]] w fun e w' => e = .returned (.bool (l.any impl_PathFault.bad)) ∧ ∃ q, w' = w.drewN q := by
 have key := AnyE.slices_ContainsFunc Tryd.laysConStr Value.string impl_PathFault.bad 149 #[] impl_PathFault.eg w0.heap.size 0 l.length l.length l w (fun W x _ => impl_PathFault.lit W x) (Nat.le_refl _) hl (fun j hj => by
  subst hw
  rw [Nat.zero_add]
  simp [hj])
 rw [List.take_length] at key
 exact key
set_option maxHeartbeats 1000000 in
theorem impl_PathFault.calls (a0 : ByteArray) (r : Int) (w : World) (h : impl_PathFault.f a0 = some r) :
  Calls Tryd.prog 102 #[.string a0] w fun e w' => e = .returned (.int .i64 r) ∧ Below w.heap.size w w' := by
 unfold impl_PathFault.f at h
 by_cases h2 : a0.size < 4294967281
 ·
  rw [if_pos h2] at h
  obtain rfl := Option.some.inj h
  have hle : (impl_PathFault.pieces a0).length ≤ a0.size + 1 := X.pieces_le a0 ⟨#[47]⟩ 0 rfl h2
  have HS := Lib.hid (impl_PathFault.split a0 w h2)
  have HA := Lib.hid (impl_PathFault.anyOf (impl_PathFault.pieces a0) (w.alloc (.cells ((impl_PathFault.pieces a0).map Value.string).toArray 9)) w (by omega) rfl)
  unfold impl_PathFault.v
  clear h h2 hle
  by_cases h4 : (impl_PathFault.pieces a0).length ≤ 4
  ·
   rw [if_pos h4]
   have h4z : ¬ ((impl_PathFault.pieces a0).length : Int) > 4 := by omega
   clear h4
   generalize (impl_PathFault.pieces a0).any impl_PathFault.bad = b at HA ⊢
   cases b <;> simp only [Bool.false_eq_true, if_false, if_true]
   all_goals
    go_enter Tryd.func102, Tryd.ntmps102
    go_wp2_with (first | (go_at_call 147; refine HS.out.mono ?_; rintro e w' ⟨rfl, rfl⟩) | (go_at_call 148; refine HA.out.mono ?_; rintro e w' ⟨rfl, q, rfl⟩))
    all_goals go_ret
    all_goals first | exact ⟨rfl, below_drewN' ((Below.refl _ w).alloc (Nat.le_refl _) _) q⟩ | (clear HS HA; exfalso; simp_all <;> omega)
  ·
   rw [if_neg h4]
   have h4z : ((impl_PathFault.pieces a0).length : Int) > 4 := by omega
   clear h4 HA
   go_enter Tryd.func102, Tryd.ntmps102
   go_wp2_with (go_at_call 147; refine HS.out.mono ?_; rintro e w' ⟨rfl, rfl⟩)
   all_goals go_ret
   all_goals first | (exfalso; omega) | exact ⟨by first | rfl | simp_all, (Below.refl _ w).alloc (Nat.le_refl _) _⟩
 ·
  rw [if_neg h2] at h
  cases h


/-! ### impl_IndexFault: function 54 -/
mutual
def impl_IndexFault.l0 : Nat → List (S80) → List (S80) → Int → Int → Option (Int)
 | 0, _, _, _, _ => none
 | k + 1, x0, x8, x9, x10 => if x10 < x9 then (if 0 ≤ x10 then (if x10 < (x8.length : Int) then ((impl_PathFault.f ((rd_T80 x8 x10).f0)).bind fun t661 => (if t661 = 0 then ((impl_within.f ((rd_T80 x8 x10).f1) 0 3).bind fun t662 => (if t662 = true then ((impl_isFileMode.f ((rd_T80 x8 x10).f2)).bind fun t663 => (impl_IndexFault.j1 k x0 x10 x8 x9 x10 (!t663) ((rd_T80 x8 x10).f0) ((rd_T80 x8 x10).f1) ((rd_T80 x8 x10).f2) ((rd_T80 x8 x10).f3))) else (impl_IndexFault.j1 k x0 x10 x8 x9 x10 true ((rd_T80 x8 x10).f0) ((rd_T80 x8 x10).f1) ((rd_T80 x8 x10).f2) ((rd_T80 x8 x10).f3)))) else (some 1))) else (none)) else (none)) else (some 0)
def impl_IndexFault.j1 : Nat → List (S80) → Int → List (S80) → Int → Int → Bool → ByteArray → Int → Int → ByteArray → Option (Int)
 | 0, _, _, _, _, _, _, _, _, _, _ => none
 | k + 1, x0, x3, x8, x9, x10, x20, x661000, x661001, x661002, x661003 => if x20 = true then (some 3) else ((impl_isIdOf.f 1 x661003).bind fun t664 => (if t664 = true then (if x3 > 0 then (if 0 ≤ (wrap64 (x3 - 1)) then (if (wrap64 (x3 - 1)) < (x0.length : Int) then ((impl_compareEntries.f k ((rd_T80 x0 (wrap64 (x3 - 1))).f0) ((rd_T80 x0 (wrap64 (x3 - 1))).f1) ((rd_T80 x0 (wrap64 (x3 - 1))).f2) ((rd_T80 x0 (wrap64 (x3 - 1))).f3) x661000 x661001 x661002 x661003).bind fun t666 => (if t666 ≥ 0 then (some 1) else (if ((rd_T80 x0 (wrap64 (x3 - 1))).f0).toList = x661000.toList then (if ((rd_T80 x0 (wrap64 (x3 - 1))).f1) = 0 then (some 1) else (impl_IndexFault.l0 k x0 x8 x9 (wrap64 (x10 + 1)))) else (impl_IndexFault.l0 k x0 x8 x9 (wrap64 (x10 + 1)))))) else (none)) else (none)) else (impl_IndexFault.l0 k x0 x8 x9 (wrap64 (x10 + 1)))) else (some 1)))
end
def impl_IndexFault.f (k : Nat) (l0 : List (S80)) : Option (Int) := if (l0.length : Int) > 200 then (some 2) else (impl_IndexFault.l0 k l0 l0 (l0.length : Int) 0)
theorem impl_IndexFault.mono_l : ∀ k, (∀ y0 y1 y2 y3, LeO (impl_IndexFault.l0 k y0 y1 y2 y3) (impl_IndexFault.l0 (k + 1) y0 y1 y2 y3)) ∧ (∀ y0 y1 y2 y3 y4 y5 y6 y7 y8 y9, LeO (impl_IndexFault.j1 k y0 y1 y2 y3 y4 y5 y6 y7 y8 y9) (impl_IndexFault.j1 (k + 1) y0 y1 y2 y3 y4 y5 y6 y7 y8 y9))
 | 0 => ⟨fun _ _ _ _ r h => by simp [impl_IndexFault.l0] at h, fun _ _ _ _ _ _ _ _ _ _ r h => by simp [impl_IndexFault.j1] at h⟩
 | k + 1 => by
  obtain ⟨ih0, ih1⟩ := impl_IndexFault.mono_l k
  refine ⟨?_, ?_⟩
  ·
   intro y0 y1 y2 y3
   unfold impl_IndexFault.l0
   repeat' first
   | (with_reducible exact ih0 _ _ _ _)
   | (with_reducible exact ih1 _ _ _ _ _ _ _ _ _ _)
   | (with_reducible exact impl_compareEntries.mono _ _ _ _ _ _ _ _ _)
   | (with_reducible exact LeO.refl _)
   | (with_reducible exact LeO.none _)
   | (with_reducible refine LeO.ite ?_ ?_)
   | (with_reducible refine LeO.bind ?_ (fun _ => ?_))
   | exact ih0 _ _ _ _
   | exact ih1 _ _ _ _ _ _ _ _ _ _
   | exact impl_compareEntries.mono _ _ _ _ _ _ _ _ _
   | exact LeO.none _
   | refine LeO.ite ?_ ?_
   | refine LeO.bind ?_ (fun _ => ?_)
  ·
   intro y0 y1 y2 y3 y4 y5 y6 y7 y8 y9
   unfold impl_IndexFault.j1
   repeat' first
   | (with_reducible exact ih0 _ _ _ _)
   | (with_reducible exact ih1 _ _ _ _ _ _ _ _ _ _)
   | (with_reducible exact impl_compareEntries.mono _ _ _ _ _ _ _ _ _)
   | (with_reducible exact LeO.refl _)
   | (with_reducible exact LeO.none _)
   | (with_reducible refine LeO.ite ?_ ?_)
   | (with_reducible refine LeO.bind ?_ (fun _ => ?_))
   | exact ih0 _ _ _ _
   | exact ih1 _ _ _ _ _ _ _ _ _ _
   | exact impl_compareEntries.mono _ _ _ _ _ _ _ _ _
   | exact LeO.none _
   | refine LeO.ite ?_ ?_
   | refine LeO.bind ?_ (fun _ => ?_)
theorem impl_IndexFault.mono : ∀ a0 k, LeO (impl_IndexFault.f k a0) (impl_IndexFault.f (k + 1) a0) := by
 intro a0 k
 obtain ⟨ih0, ih1⟩ := impl_IndexFault.mono_l k
 unfold impl_IndexFault.f
 repeat' first
   | (with_reducible exact ih0 _ _ _ _)
   | (with_reducible exact ih1 _ _ _ _ _ _ _ _ _ _)
   | (with_reducible exact impl_compareEntries.mono _ _ _ _ _ _ _ _ _)
   | (with_reducible exact LeO.refl _)
   | (with_reducible exact LeO.none _)
   | (with_reducible refine LeO.ite ?_ ?_)
   | (with_reducible refine LeO.bind ?_ (fun _ => ?_))
   | exact ih0 _ _ _ _
   | exact ih1 _ _ _ _ _ _ _ _ _ _
   | exact impl_compareEntries.mono _ _ _ _ _ _ _ _ _
   | exact LeO.none _
   | refine LeO.ite ?_ ?_
   | refine LeO.bind ?_ (fun _ => ?_)
def impl_IndexFault.T12 : Bool × List (List Nat × List Nat) := (true, [([], []), ([0], [0]), ([1], [1]), ([2], [2]), ([2], [2]), ([4, 2], [2, 4]), ([3, 5, 2], [2, 3, 5]), ([6, 2], [2, 6]), ([2], [2]), ([7, 8, 2, 2], [2, 7, 8]), ([9, 2], [2, 9]), ([10, 9, 2], [2, 10]), ([11], [11]), ([11], [11]), ([13, 11], [11, 13]), ([12, 14, 11], [11, 12, 14]), ([15, 11], [11, 15]), ([16, 11], [11, 16]), ([11], [11]), ([18, 11], [11, 18]), ([17, 19, 11], [11, 17, 19]), ([20, 11, 11], [11, 20]), ([21], [21]), ([21], [21]), ([23, 21], [21, 23]), ([22, 24, 21], [21, 22, 24]), ([25, 21], [21, 25]), ([26, 21], [21, 26]), ([27, 21], [21, 27]), ([21, 28, 11], [11, 21, 28]), ([11, 29, 2], [2, 11, 29]), ([2, 30], [2, 30]), ([31, 21], [31])])
def impl_IndexFault.B12 : List Nat := [0, 1, 3, 7, 7, 23, 63, 127, 7, 511, 1023, 2047, 4095, 4095, 12287, 32767, 65535, 131071, 4095, 266239, 1048575, 2097151, 4194303, 4194303, 12582911, 33554431, 67108863, 134217727, 268435455, 536870911, 1073741823, 2147483647, 4294967295]
theorem impl_IndexFault.tab12 : rtab .any (opsOf Tryd.f54 12) = impl_IndexFault.T12 := by kernel_rfl
theorem impl_IndexFault.bits12 : waitsOk impl_IndexFault.T12.2 impl_IndexFault.B12 = true := by kernel_rfl
set_option maxHeartbeats 8000000 in
set_option maxRecDepth 100000 in
theorem impl_IndexFault.calls (k : Nat) (A0 : Option Addr) (c0 : Nat) (l0 : List (S80)) (r : Int) (w : World) (hr0 : Kd.C k80 w A0 l0.length l0) (hc0 : l0.length ≤ c0) (h : impl_IndexFault.f k l0 = some r) :
  Calls Tryd.prog 54 #[.slice A0 l0.length c0] w fun e w' => e = .returned (.int .i64 r) ∧ Below w.heap.size w w' := by
 have hu80 := Tryd.underlying80
 have HR0 := zK hr0
 have HC0 := zK hc0
 clear hr0 hc0
 have HB := zK (Below.refl w.heap.size w)
 have H : (if (l0.length : Int) > 200 then (some 2) else (impl_IndexFault.l0 k l0 l0 (l0.length : Int) 0)) = some r := h
 clear h
 by_cases c2 : (l0.length : Int) > 200
 ·
  rw [if_pos c2] at H
  have c2b0 : decide (200 < (l0.length : Int)) = true := decide_eq_true c2
  have c2b1 : decide (200 < l0.length) = true := decide_eq_true (by omega)
  clear c2
  obtain rfl := Option.some.inj H
  go_enter Tryd.func54, Tryd.ntmps54
  go_wp2
  go_ret
  exact ⟨by first | rfl | (simp [errW_none, errW_some] <;> rfl) | (simp [*, errW_none, errW_some] <;> rfl), by repeat (first | (with_reducible first | exact HB.out | apply zA | apply zN | apply zD) | exact HB.out)⟩
 ·
  rw [if_neg c2] at H
  have c2b0 : decide (200 < (l0.length : Int)) = false := decide_eq_false c2
  have c2b1 : decide (200 < l0.length) = false := decide_eq_false (by omega)
  clear c2
  have H' := zK H
  clear H
  go_enter Tryd.func54, Tryd.ntmps54
  go_wp2
  go_loopg [10] k (fun kq v10 w' => ∃ (x10_1 : Int), v10 = .int .i64 x10_1 ∧ Aside0 (impl_IndexFault.l0 kq l0 l0 (l0.length : Int) x10_1 = some r) ∧ Aside0 (kq ≤ k) ∧ Aside0 (Below w.heap.size w w'))
  case atStart => exact ⟨(0), (by first | rfl | (simp; done) | (simp [*]; done)), H', ⟨Nat.le_refl _⟩, ⟨by repeat (first | (with_reducible first | exact HB.out | apply zA | apply zN | apply zD) | exact HB.out)⟩⟩
  case round =>
   clear H'
   try clear c2
   try clear c2b0
   try clear c2b1
   try clear p2
   obtain ⟨x10_1, rfl, HA, HK1, HB⟩ := hrel
   cases gk with
   | zero => exact absurd HA.out (by simp [impl_IndexFault.l0])
   | succ k1 =>
    have H := HA.out
    clear HA
    simp only [impl_IndexFault.l0] at H
    by_cases c3 : x10_1 < (l0.length : Int)
    ·
     rw [if_pos c3] at H
     have c3b0 : decide (x10_1 < (l0.length : Int)) = true := decide_eq_true c3
     clear c3
     by_cases c4 : 0 ≤ x10_1
     ·
      rw [if_pos c4] at H
      have c4b0 : decide (0 ≤ x10_1) = true := decide_eq_true c4
      clear c4
      by_cases c5 : x10_1 < (l0.length : Int)
      ·
       rw [if_pos c5] at H
       have c5b0 : decide (x10_1 < (l0.length : Int)) = true := decide_eq_true c5
       clear c5
       replace H := Option.bind_eq_some_iff.mp H
       obtain ⟨t661, A60, H⟩ := H
       replace H : (if t661 = 0 then ((impl_within.f ((rd_T80 l0 x10_1).f1) 0 3).bind fun t662 => (if t662 = true then ((impl_isFileMode.f ((rd_T80 l0 x10_1).f2)).bind fun t663 => (impl_IndexFault.j1 k1 l0 x10_1 l0 (l0.length : Int) x10_1 (!t663) ((rd_T80 l0 x10_1).f0) ((rd_T80 l0 x10_1).f1) ((rd_T80 l0 x10_1).f2) ((rd_T80 l0 x10_1).f3))) else (impl_IndexFault.j1 k1 l0 x10_1 l0 (l0.length : Int) x10_1 true ((rd_T80 l0 x10_1).f0) ((rd_T80 l0 x10_1).f1) ((rd_T80 l0 x10_1).f2) ((rd_T80 l0 x10_1).f3)))) else (some 1)) = some r := H
       have A6 := zK A60
       clear A60
       by_cases c7 : t661 = 0
       ·
        rw [if_pos c7] at H
        have c7b0 : (t661 == 0) = true := beq_iff_eq.mpr c7
        have c7b1 : (t661 != 0) = false := bne_eq_false_iff_eq.mpr c7
        clear c7
        have HC8 := zK H
        clear H
        have p659 : 0 ≤ (x10_1 : Int) := zX (by first | (with_reducible assumption) | assumption)
        have q659 : x10_1 < (l0.length : Int) := zX (by first | (with_reducible assumption) | assumption)
        obtain ⟨ad659, e659, hx659_0, hx659_1, hx659_2, hx659_3⟩ := at_T80 HR0.out x10_1 p659 q659
        cases e659
        replace hx659_0 := (HB.out.cell (zL w _ hx659_0)).trans hx659_0
        replace hx659_1 := (HB.out.cell (zL w _ hx659_1)).trans hx659_1
        replace hx659_2 := (HB.out.cell (zL w _ hx659_2)).trans hx659_2
        replace hx659_3 := (HB.out.cell (zL w _ hx659_3)).trans hx659_3
        replace p659 := eq_true p659
        replace q659 := eq_true q659
        go_upto_region 8 with (first | ((with_reducible refine gate_dst (N := 4) rfl ?_); refine box_event ?hg (N := 4) ?hd (cs := #[.string (⟨#[]⟩ : ByteArray), .int .i64 0, .int .i64 0, .string (⟨#[]⟩ : ByteArray)]) (t := 80) ?hr ?_; (case hd => rfl); (case hg => rfl); (case hr => first | (go_simp; done) | (go_simp; rfl)); intro gb660 hg w9 hbox hb; have n0_ := zK (below_step (by repeat (first | (with_reducible first | exact HB.out | apply zA | apply zN | apply zD) | exact HB.out)) hb); have n1_ := zK (hbox); have n2_ := zK ((by rw [hg]; exact (below_size (by repeat (first | (with_reducible first | exact HB.out | apply zA | apply zN | apply zD) | exact HB.out))) : w.heap.size ≤ gb660)); have n3_ := zK ((by rw [hg]; exact (below_size (by repeat (first | (with_reducible first | exact HB.out | apply zA | apply zN | apply zD) | exact HB.out))) : w.heap.size ≤ gb660)); clear HB; have HB := n0_; have BK660 := n1_; have GW660 := n2_; have GE660 := n3_; clear n0_ n1_ n2_ n3_; clear hb hbox hg; have hcz10_0 : w9.cell? ⟨gb660, 0, none⟩ = some (.string (⟨#[]⟩ : ByteArray)) := (blk_cell BK660.out 0).trans rfl; have hcz10_1 : w9.cell? ⟨gb660, 1, none⟩ = some (.int .i64 0) := (blk_cell BK660.out 1).trans rfl; have hcz10_2 : w9.cell? ⟨gb660, 2, none⟩ = some (.int .i64 0) := (blk_cell BK660.out 2).trans rfl; have hcz10_3 : w9.cell? ⟨gb660, 3, none⟩ = some (.string (⟨#[]⟩ : ByteArray)) := (blk_cell BK660.out 3).trans rfl; have hfz10_0 := blk_frozen BK660.out 0; have hfz10_1 := blk_frozen BK660.out 1; have hfz10_2 := blk_frozen BK660.out 2; have hfz10_3 := blk_frozen BK660.out 3) | ((with_reducible refine gate_callee (f := 102) rfl ?_); refine goesL_ (some 18) rfl rfl Tryd.func102 (by kernel_rfl) rfl #[.string ((rd_T80 l0 x10_1).f0)] rfl (by (try simp only [List.map_toArray, List.map_cons, List.map_nil]); first | done | rfl | (simp only [List.length_drop, List.length_take]; rfl)) ?_; (with_reducible refine (impl_PathFault.calls ((rd_T80 l0 x10_1).f0) t661 _ A6.out).mono ?_); rintro e w11 ⟨rfl, hb⟩; refine ⟨_, rfl, ?_⟩; have n0_ := zK (blk_below (g := gb660) (o := .cells #[.string ((rd_T80 l0 x10_1).f0), .int .i64 ((rd_T80 l0 x10_1).f1), .int .i64 ((rd_T80 l0 x10_1).f2), .string ((rd_T80 l0 x10_1).f3)] 80 (0, 0)) (by (with_reducible repeat (first | refine zM ?_ _ | refine zP ?_ | refine zQ ?_ _)); refine blk_put (cs := #[.string ((rd_T80 l0 x10_1).f0), .int .i64 ((rd_T80 l0 x10_1).f1), .int .i64 ((rd_T80 l0 x10_1).f2), .string (⟨#[]⟩ : ByteArray)]) ?_ 3 _ rfl; (with_reducible repeat (first | refine zM ?_ _ | refine zP ?_ | refine zQ ?_ _)); refine blk_put (cs := #[.string ((rd_T80 l0 x10_1).f0), .int .i64 ((rd_T80 l0 x10_1).f1), .int .i64 0, .string (⟨#[]⟩ : ByteArray)]) ?_ 2 _ rfl; (with_reducible repeat (first | refine zM ?_ _ | refine zP ?_ | refine zQ ?_ _)); refine blk_put (cs := #[.string ((rd_T80 l0 x10_1).f0), .int .i64 0, .int .i64 0, .string (⟨#[]⟩ : ByteArray)]) ?_ 1 _ rfl; (with_reducible repeat (first | refine zM ?_ _ | refine zP ?_ | refine zQ ?_ _)); refine blk_put (cs := #[.string (⟨#[]⟩ : ByteArray), .int .i64 0, .int .i64 0, .string (⟨#[]⟩ : ByteArray)]) ?_ 0 _ rfl; (with_reducible repeat (first | refine zM ?_ _ | refine zP ?_ | refine zQ ?_ _)); exact BK660.out) hb); have n1_ := zK (below_step (by repeat (first | (with_reducible first | exact HB.out | apply zA | apply zN | apply zD | refine below_set ?_ GE660.out) | exact HB.out)) hb); clear BK660; clear HB; have BK660 := n0_; have HB := n1_; clear n0_ n1_; (try clear hb); (try clear hb2); (try clear hk); (try clear hi)))
        (try simp only [Act.put, zS, zT, zU])
        go_cut [20] (fun v20 wc => ∃ (kq : Nat) (x20_7 : Bool), v20 = .bool x20_7 ∧ Aside0 (impl_IndexFault.j1 kq l0 x10_1 l0 (l0.length : Int) x10_1 x20_7 ((rd_T80 l0 x10_1).f0) ((rd_T80 l0 x10_1).f1) ((rd_T80 l0 x10_1).f2) ((rd_T80 l0 x10_1).f3) = some r) ∧ Aside0 (kq ≤ k1) ∧ Aside0 (wc.heap[gb660]? = some (.cells #[.string ((rd_T80 l0 x10_1).f0), .int .i64 ((rd_T80 l0 x10_1).f1), .int .i64 ((rd_T80 l0 x10_1).f2), .string ((rd_T80 l0 x10_1).f3)] 80 (0, 0))) ∧ Aside0 (Below w.heap.size w wc))
        case first =>
         have H := HC8.out
         clear HC8
         replace H := Option.bind_eq_some_iff.mp H
         obtain ⟨t662, A120, H⟩ := H
         replace H : (if t662 = true then ((impl_isFileMode.f ((rd_T80 l0 x10_1).f2)).bind fun t663 => (impl_IndexFault.j1 k1 l0 x10_1 l0 (l0.length : Int) x10_1 (!t663) ((rd_T80 l0 x10_1).f0) ((rd_T80 l0 x10_1).f1) ((rd_T80 l0 x10_1).f2) ((rd_T80 l0 x10_1).f3))) else (impl_IndexFault.j1 k1 l0 x10_1 l0 (l0.length : Int) x10_1 true ((rd_T80 l0 x10_1).f0) ((rd_T80 l0 x10_1).f1) ((rd_T80 l0 x10_1).f2) ((rd_T80 l0 x10_1).f3))) = some r := H
         have A12 := zK A120
         clear A120
         by_cases c13 : t662 = true
         ·
          subst c13
          have H1 : ((impl_isFileMode.f ((rd_T80 l0 x10_1).f2)).bind fun t663 => (impl_IndexFault.j1 k1 l0 x10_1 l0 (l0.length : Int) x10_1 (!t663) ((rd_T80 l0 x10_1).f0) ((rd_T80 l0 x10_1).f1) ((rd_T80 l0 x10_1).f2) ((rd_T80 l0 x10_1).f3))) = some r := by rw [if_pos rfl] at H; exact H
          clear H
          have H := H1
          clear H1
          replace H := Option.bind_eq_some_iff.mp H
          obtain ⟨t663, A140, H⟩ := H
          replace H : (impl_IndexFault.j1 k1 l0 x10_1 l0 (l0.length : Int) x10_1 (!t663) ((rd_T80 l0 x10_1).f0) ((rd_T80 l0 x10_1).f1) ((rd_T80 l0 x10_1).f2) ((rd_T80 l0 x10_1).f3)) = some r := H
          have A14 := zK A140
          clear A140
          have H' := zK H
          clear H
          have hcz15_0 : w11.cell? ⟨gb660, 0, none⟩ = some (.string ((rd_T80 l0 x10_1).f0)) := (blk_cell BK660.out 0).trans rfl
          have hcz15_1 : w11.cell? ⟨gb660, 1, none⟩ = some (.int .i64 ((rd_T80 l0 x10_1).f1)) := (blk_cell BK660.out 1).trans rfl
          have hcz15_2 : w11.cell? ⟨gb660, 2, none⟩ = some (.int .i64 ((rd_T80 l0 x10_1).f2)) := (blk_cell BK660.out 2).trans rfl
          have hcz15_3 : w11.cell? ⟨gb660, 3, none⟩ = some (.string ((rd_T80 l0 x10_1).f3)) := (blk_cell BK660.out 3).trans rfl
          have hfz15_0 := blk_frozen BK660.out 0
          have hfz15_1 := blk_frozen BK660.out 1
          have hfz15_2 := blk_frozen BK660.out 2
          have hfz15_3 := blk_frozen BK660.out 3
          go_wp2_with (first | ((with_reducible refine gate_callee (f := 103) rfl ?_); refine goesL_ (some 23) rfl rfl Tryd.func103 (by kernel_rfl) rfl #[.int .i64 ((rd_T80 l0 x10_1).f1), .int .i64 0, .int .i64 3] rfl (by (try simp only [List.map_toArray, List.map_cons, List.map_nil]); first | done | rfl | (simp only [List.length_drop, List.length_take]; rfl)) ?_; (with_reducible refine (impl_within.calls ((rd_T80 l0 x10_1).f1) 0 3 true _ A12.out).mono ?_); rintro e w' ⟨rfl, ⟨nd, rfl⟩⟩; refine ⟨_, rfl, ?_⟩) | (go_at_call 104; (with_reducible refine (impl_isFileMode.calls ((rd_T80 l0 x10_1).f2) t663 _ A14.out).mono ?_); rintro e w' ⟨rfl, ⟨nd, rfl⟩⟩))
          go_meet
          case rel => exact ⟨_, (!t663), (by first | rfl | (simp; done) | (simp [*]; done)), H', ⟨by have := HK1.out; first | omega | exact Nat.le_refl _⟩, ⟨by (with_reducible repeat (first | refine zM ?_ _ | refine zP ?_ | refine zQ ?_ _)); exact BK660.out⟩, ⟨by repeat (first | (with_reducible first | exact HB.out | apply zA | apply zN | apply zD | refine below_set ?_ GE660.out) | exact HB.out)⟩⟩
         ·
          replace c13 := Bool.eq_false_iff.mpr c13
          subst c13
          have H1 : (impl_IndexFault.j1 k1 l0 x10_1 l0 (l0.length : Int) x10_1 true ((rd_T80 l0 x10_1).f0) ((rd_T80 l0 x10_1).f1) ((rd_T80 l0 x10_1).f2) ((rd_T80 l0 x10_1).f3)) = some r := by rw [if_neg (show ¬ (false = true) by decide)] at H; exact H
          clear H
          have H := H1
          clear H1
          have H' := zK H
          clear H
          have hcz16_0 : w11.cell? ⟨gb660, 0, none⟩ = some (.string ((rd_T80 l0 x10_1).f0)) := (blk_cell BK660.out 0).trans rfl
          have hcz16_1 : w11.cell? ⟨gb660, 1, none⟩ = some (.int .i64 ((rd_T80 l0 x10_1).f1)) := (blk_cell BK660.out 1).trans rfl
          have hcz16_2 : w11.cell? ⟨gb660, 2, none⟩ = some (.int .i64 ((rd_T80 l0 x10_1).f2)) := (blk_cell BK660.out 2).trans rfl
          have hcz16_3 : w11.cell? ⟨gb660, 3, none⟩ = some (.string ((rd_T80 l0 x10_1).f3)) := (blk_cell BK660.out 3).trans rfl
          have hfz16_0 := blk_frozen BK660.out 0
          have hfz16_1 := blk_frozen BK660.out 1
          have hfz16_2 := blk_frozen BK660.out 2
          have hfz16_3 := blk_frozen BK660.out 3
          go_wp2_with (first | ((with_reducible refine gate_callee (f := 103) rfl ?_); refine goesL_ (some 23) rfl rfl Tryd.func103 (by kernel_rfl) rfl #[.int .i64 ((rd_T80 l0 x10_1).f1), .int .i64 0, .int .i64 3] rfl (by (try simp only [List.map_toArray, List.map_cons, List.map_nil]); first | done | rfl | (simp only [List.length_drop, List.length_take]; rfl)) ?_; (with_reducible refine (impl_within.calls ((rd_T80 l0 x10_1).f1) 0 3 false _ A12.out).mono ?_); rintro e w' ⟨rfl, ⟨nd, rfl⟩⟩; refine ⟨_, rfl, ?_⟩))
          go_meet
          case rel => exact ⟨_, (true), (by first | rfl | (simp; done) | (simp [*]; done)), H', ⟨by have := HK1.out; first | omega | exact Nat.le_refl _⟩, ⟨by (with_reducible repeat (first | refine zM ?_ _ | refine zP ?_ | refine zQ ?_ _)); exact BK660.out⟩, ⟨by repeat (first | (with_reducible first | exact HB.out | apply zA | apply zN | apply zD | refine below_set ?_ GE660.out) | exact HB.out)⟩⟩
        case rest =>
         clear HC8
         try clear c1
         try clear c2
         try clear c2b0
         try clear c2b1
         try clear p2
         try clear c3
         try clear c3b0
         try clear c4
         try clear c4b0
         try clear c5
         try clear c5b0
         try clear p6
         try clear q6
         try clear hx6
         try clear c7
         try clear c7b0
         try clear c7b1
         try clear c10
         try clear c13
         try clear hcz10_0
         try clear hcz10_1
         try clear hcz10_2
         try clear hcz10_3
         try clear hcz15_0
         try clear hcz15_1
         try clear hcz15_2
         try clear hcz15_3
         try clear hcz16_0
         try clear hcz16_1
         try clear hcz16_2
         try clear hcz16_3
         try clear hfz10_0
         try clear hfz10_1
         try clear hfz10_2
         try clear hfz10_3
         try clear hfz15_0
         try clear hfz15_1
         try clear hfz15_2
         try clear hfz15_3
         try clear hfz16_0
         try clear hfz16_1
         try clear hfz16_2
         try clear hfz16_3
         try clear hx659_0
         try clear hx659_1
         try clear hx659_2
         try clear hx659_3
         try clear p2
         try clear p659
         try clear q659
         obtain ⟨kq, x20_7, rfl, HA, HJ7, BK660, HB⟩ := hcut
         cases kq with
         | zero => exact absurd HA.out (by simp [impl_IndexFault.j1])
         | succ kj7 =>
          have H := HA.out
          clear HA
          simp only [impl_IndexFault.j1] at H
          by_cases c17 : x20_7 = true
          ·
           subst c17
           have H1 : (some 3) = some r := by rw [if_pos rfl] at H; exact H
           clear H
           have H := H1
           clear H1
           obtain rfl := Option.some.inj H
           go_wp2
           go_ret
           exact ⟨by first | rfl | (simp [errW_none, errW_some] <;> rfl) | (simp [*, errW_none, errW_some] <;> rfl), by repeat (first | (with_reducible first | exact HB.out | apply zA | apply zN | apply zD | refine below_set ?_ GE660.out) | exact HB.out)⟩
          ·
           replace c17 := Bool.eq_false_iff.mpr c17
           subst c17
           have H1 : ((impl_isIdOf.f 1 ((rd_T80 l0 x10_1).f3)).bind fun t664 => (if t664 = true then (if x10_1 > 0 then (if 0 ≤ (wrap64 (x10_1 - 1)) then (if (wrap64 (x10_1 - 1)) < (l0.length : Int) then ((impl_compareEntries.f kj7 ((rd_T80 l0 (wrap64 (x10_1 - 1))).f0) ((rd_T80 l0 (wrap64 (x10_1 - 1))).f1) ((rd_T80 l0 (wrap64 (x10_1 - 1))).f2) ((rd_T80 l0 (wrap64 (x10_1 - 1))).f3) ((rd_T80 l0 x10_1).f0) ((rd_T80 l0 x10_1).f1) ((rd_T80 l0 x10_1).f2) ((rd_T80 l0 x10_1).f3)).bind fun t666 => (if t666 ≥ 0 then (some 1) else (if ((rd_T80 l0 (wrap64 (x10_1 - 1))).f0).toList = ((rd_T80 l0 x10_1).f0).toList then (if ((rd_T80 l0 (wrap64 (x10_1 - 1))).f1) = 0 then (some 1) else (impl_IndexFault.l0 kj7 l0 l0 (l0.length : Int) (wrap64 (x10_1 + 1)))) else (impl_IndexFault.l0 kj7 l0 l0 (l0.length : Int) (wrap64 (x10_1 + 1)))))) else (none)) else (none)) else (impl_IndexFault.l0 kj7 l0 l0 (l0.length : Int) (wrap64 (x10_1 + 1)))) else (some 1))) = some r := by rw [if_neg (show ¬ (false = true) by decide)] at H; exact H
           clear H
           have H := H1
           clear H1
           replace H := Option.bind_eq_some_iff.mp H
           obtain ⟨t664, A180, H⟩ := H
           replace H : (if t664 = true then (if x10_1 > 0 then (if 0 ≤ (wrap64 (x10_1 - 1)) then (if (wrap64 (x10_1 - 1)) < (l0.length : Int) then ((impl_compareEntries.f kj7 ((rd_T80 l0 (wrap64 (x10_1 - 1))).f0) ((rd_T80 l0 (wrap64 (x10_1 - 1))).f1) ((rd_T80 l0 (wrap64 (x10_1 - 1))).f2) ((rd_T80 l0 (wrap64 (x10_1 - 1))).f3) ((rd_T80 l0 x10_1).f0) ((rd_T80 l0 x10_1).f1) ((rd_T80 l0 x10_1).f2) ((rd_T80 l0 x10_1).f3)).bind fun t666 => (if t666 ≥ 0 then (some 1) else (if ((rd_T80 l0 (wrap64 (x10_1 - 1))).f0).toList = ((rd_T80 l0 x10_1).f0).toList then (if ((rd_T80 l0 (wrap64 (x10_1 - 1))).f1) = 0 then (some 1) else (impl_IndexFault.l0 kj7 l0 l0 (l0.length : Int) (wrap64 (x10_1 + 1)))) else (impl_IndexFault.l0 kj7 l0 l0 (l0.length : Int) (wrap64 (x10_1 + 1)))))) else (none)) else (none)) else (impl_IndexFault.l0 kj7 l0 l0 (l0.length : Int) (wrap64 (x10_1 + 1)))) else (some 1)) = some r := H
           have A18 := zK A180
           clear A180
           by_cases c19 : t664 = true
           ·
            subst c19
            have H1 : (if x10_1 > 0 then (if 0 ≤ (wrap64 (x10_1 - 1)) then (if (wrap64 (x10_1 - 1)) < (l0.length : Int) then ((impl_compareEntries.f kj7 ((rd_T80 l0 (wrap64 (x10_1 - 1))).f0) ((rd_T80 l0 (wrap64 (x10_1 - 1))).f1) ((rd_T80 l0 (wrap64 (x10_1 - 1))).f2) ((rd_T80 l0 (wrap64 (x10_1 - 1))).f3) ((rd_T80 l0 x10_1).f0) ((rd_T80 l0 x10_1).f1) ((rd_T80 l0 x10_1).f2) ((rd_T80 l0 x10_1).f3)).bind fun t666 => (if t666 ≥ 0 then (some 1) else (if ((rd_T80 l0 (wrap64 (x10_1 - 1))).f0).toList = ((rd_T80 l0 x10_1).f0).toList then (if ((rd_T80 l0 (wrap64 (x10_1 - 1))).f1) = 0 then (some 1) else (impl_IndexFault.l0 kj7 l0 l0 (l0.length : Int) (wrap64 (x10_1 + 1)))) else (impl_IndexFault.l0 kj7 l0 l0 (l0.length : Int) (wrap64 (x10_1 + 1)))))) else (none)) else (none)) else (impl_IndexFault.l0 kj7 l0 l0 (l0.length : Int) (wrap64 (x10_1 + 1)))) = some r := by rw [if_pos rfl] at H; exact H
            clear H
            have H := H1
            clear H1
            by_cases c20 : x10_1 > 0
            ·
             rw [if_pos c20] at H
             have c20b0 : decide (0 < x10_1) = true := decide_eq_true c20
             clear c20
             obtain ⟨ji21, hji21⟩ : ∃ j_ : Int, (wrap64 (x10_1 - 1)) = j_ := ⟨_, rfl⟩
             replace H : (if 0 ≤ (ji21) then (if (ji21) < (l0.length : Int) then ((impl_compareEntries.f kj7 ((rd_T80 l0 (ji21)).f0) ((rd_T80 l0 (ji21)).f1) ((rd_T80 l0 (ji21)).f2) ((rd_T80 l0 (ji21)).f3) ((rd_T80 l0 x10_1).f0) ((rd_T80 l0 x10_1).f1) ((rd_T80 l0 x10_1).f2) ((rd_T80 l0 x10_1).f3)).bind fun t666 => (if t666 ≥ 0 then (some 1) else (if ((rd_T80 l0 (ji21)).f0).toList = ((rd_T80 l0 x10_1).f0).toList then (if ((rd_T80 l0 (ji21)).f1) = 0 then (some 1) else (impl_IndexFault.l0 kj7 l0 l0 (l0.length : Int) (wrap64 (x10_1 + 1)))) else (impl_IndexFault.l0 kj7 l0 l0 (l0.length : Int) (wrap64 (x10_1 + 1)))))) else (none)) else (none)) = some r := by first | (rw [hji21] at H; exact H) | (simp only [hji21] at H ⊢; exact H)
             (try rw [hji21] at A18)
             have hji21w : (IntKind.i64.wrap (x10_1 - 1)) = ji21 := (i64_w _).trans hji21
             by_cases c22 : 0 ≤ (ji21)
             ·
              rw [if_pos c22] at H
              have c22b0 : decide (0 ≤ (ji21)) = true := decide_eq_true c22
              clear c22
              by_cases c23 : (ji21) < (l0.length : Int)
              ·
               rw [if_pos c23] at H
               have c23b0 : decide ((ji21) < (l0.length : Int)) = true := decide_eq_true c23
               clear c23
               replace H := Option.bind_eq_some_iff.mp H
               obtain ⟨t666, A240, H⟩ := H
               replace H : (if t666 ≥ 0 then (some 1) else (if ((rd_T80 l0 (ji21)).f0).toList = ((rd_T80 l0 x10_1).f0).toList then (if ((rd_T80 l0 (ji21)).f1) = 0 then (some 1) else (impl_IndexFault.l0 kj7 l0 l0 (l0.length : Int) (wrap64 (x10_1 + 1)))) else (impl_IndexFault.l0 kj7 l0 l0 (l0.length : Int) (wrap64 (x10_1 + 1))))) = some r := H
               have A24 := zK A240
               clear A240
               by_cases c25 : t666 ≥ 0
               ·
                rw [if_pos c25] at H
                have c25b0 : decide (0 ≤ t666) = true := decide_eq_true c25
                clear c25
                obtain rfl := Option.some.inj H
                have hcz26_0 : wc.cell? ⟨gb660, 0, none⟩ = some (.string ((rd_T80 l0 x10_1).f0)) := (blk_cell BK660.out 0).trans rfl
                have hcz26_1 : wc.cell? ⟨gb660, 1, none⟩ = some (.int .i64 ((rd_T80 l0 x10_1).f1)) := (blk_cell BK660.out 1).trans rfl
                have hcz26_2 : wc.cell? ⟨gb660, 2, none⟩ = some (.int .i64 ((rd_T80 l0 x10_1).f2)) := (blk_cell BK660.out 2).trans rfl
                have hcz26_3 : wc.cell? ⟨gb660, 3, none⟩ = some (.string ((rd_T80 l0 x10_1).f3)) := (blk_cell BK660.out 3).trans rfl
                have hfz26_0 := blk_frozen BK660.out 0
                have hfz26_1 := blk_frozen BK660.out 1
                have hfz26_2 := blk_frozen BK660.out 2
                have hfz26_3 := blk_frozen BK660.out 3
                try go_wp2_with (first | ((with_reducible refine gate_callee (f := 105) rfl ?_); refine goesL_ (some 34) rfl rfl Tryd.func105 (by kernel_rfl) rfl #[.int .i64 1, .string ((rd_T80 l0 x10_1).f3)] rfl (by (try simp only [List.map_toArray, List.map_cons, List.map_nil]); first | done | rfl | (simp only [List.length_drop, List.length_take]; rfl)) ?_; (with_reducible refine (impl_isIdOf.calls 1 ((rd_T80 l0 x10_1).f3) true _ A18.out).mono ?_); rintro e w27 ⟨rfl, hb⟩; refine ⟨_, rfl, ?_⟩; have n0_ := zK (blk_below (g := gb660) (o := .cells #[.string ((rd_T80 l0 x10_1).f0), .int .i64 ((rd_T80 l0 x10_1).f1), .int .i64 ((rd_T80 l0 x10_1).f2), .string ((rd_T80 l0 x10_1).f3)] 80 (0, 0)) (by (with_reducible repeat (first | refine zM ?_ _ | refine zP ?_ | refine zQ ?_ _)); exact BK660.out) hb); have n1_ := zK (below_step (by repeat (first | (with_reducible first | exact HB.out | apply zA | apply zN | apply zD | refine below_set ?_ GE660.out) | exact HB.out)) hb); clear BK660; clear HB; have BK660 := n0_; have HB := n1_; clear n0_ n1_; (try clear hb); (try clear hb2); (try clear hk); (try clear hi)))
                have n0_ := zK (zP BK660.out)
                have n1_ := zK (zD HB.out)
                clear BK660
                clear HB
                have BK660 := n0_
                have HB := n1_
                clear n0_ n1_
                have p665 : 0 ≤ ((ji21) : Int) := zX (by first | (with_reducible assumption) | assumption)
                have q665 : (ji21) < (l0.length : Int) := zX (by first | (with_reducible assumption) | assumption)
                obtain ⟨ad665, e665, hx665_0, hx665_1, hx665_2, hx665_3⟩ := at_T80 HR0.out (ji21) p665 q665
                have hw665_3 := hx665_3
                have hw665_2 := hx665_2
                have hw665_1 := hx665_1
                have hw665_0 := hx665_0
                obtain rfl : ad659 = ad665 := (by injection e665)
                replace hx665_0 := (HB.out.cell (zL w _ hx665_0)).trans hx665_0
                replace hx665_1 := (HB.out.cell (zL w _ hx665_1)).trans hx665_1
                replace hx665_2 := (HB.out.cell (zL w _ hx665_2)).trans hx665_2
                replace hx665_3 := (HB.out.cell (zL w _ hx665_3)).trans hx665_3
                replace p665 := eq_true p665
                replace q665 := eq_true q665
                refine start_ (n := 33) (S := fun w' => w'.cell? ⟨gb660, 0, none⟩ = some (.string ((rd_T80 l0 x10_1).f0)) ∧ w'.cell? ⟨gb660, 1, none⟩ = some (.int .i64 ((rd_T80 l0 x10_1).f1)) ∧ w'.cell? ⟨gb660, 2, none⟩ = some (.int .i64 ((rd_T80 l0 x10_1).f2)) ∧ w'.cell? ⟨gb660, 3, none⟩ = some (.string ((rd_T80 l0 x10_1).f3)) ∧ w'.cell? (ad659.add (((ji21)).toNat * 4)) = some (.string ((rd_T80 l0 (ji21)).f0)) ∧ w'.cell? ⟨(ad659.add (((ji21)).toNat * 4)).block, (ad659.add (((ji21)).toNat * 4)).off + 1, none⟩ = some (.int .i64 ((rd_T80 l0 (ji21)).f1)) ∧ w'.cell? ⟨(ad659.add (((ji21)).toNat * 4)).block, (ad659.add (((ji21)).toNat * 4)).off + 2, none⟩ = some (.int .i64 ((rd_T80 l0 (ji21)).f2)) ∧ w'.cell? ⟨(ad659.add (((ji21)).toNat * 4)).block, (ad659.add (((ji21)).toNat * 4)).off + 3, none⟩ = some (.string ((rd_T80 l0 (ji21)).f3))) (ds := []) #[zF,zF,zF,zF,zF,zF,zF,zF,zF,zF,zF,zF,zF,zF,zF,zF,zF,zF,zF,zF,zF,zF,zF,zF,zF,zF,zF,zF,zF,zF,zF,zF,zF] (by kernel_rfl) rfl rfl ⟨(blk_cell BK660.out 0).trans rfl, (blk_cell BK660.out 1).trans rfl, (blk_cell BK660.out 2).trans rfl, (blk_cell BK660.out 3).trans rfl, ((HB.out.cell (zL w _ hw665_0)).trans hw665_0), ((HB.out.cell (zL w _ hw665_1)).trans hw665_1), ((HB.out.cell (zL w _ hw665_2)).trans hw665_2), ((HB.out.cell (zL w _ hw665_3)).trans hw665_3)⟩ (fun hHeld => ?_); refine with_tabW impl_IndexFault.tab12 impl_IndexFault.bits12 (fun HT_ HW_ => ?_)
                generalize w27.drew = w28 at BK660 HB hx665_0 hx665_1 hx665_2 hx665_3 hHeld ⊢
                refine pure_ (i := 0) (N := some 37) (v := ?_) (a' := ?_) #[zB,zF,zF,zF,zF,zF,zF,zF,zF,zF,zF,zF,zF,zF,zF,zF,zF,zF,zF,zF,zF,zF,zF,zF,zF,zF,zF,zF,zF,zF,zF,zF,zF] rfl rfl (any_of HT_.out (by kernel_rfl)) (fun _ _ _ h => h) (Or.inl ⟨by rfl, ?_⟩) ?_ ?_
                rotate_left
                ·
                 intro w'
                 go_simp
                 with_reducible rfl
                rotate_left
                ·
                 simp only [Act.put, zS, zT, zU, i64_w, i32_w]
                 rfl
                refine pure_ (i := 1) (N := some 38) (v := ?_) (a' := ?_) #[zB,zB,zF,zF,zF,zF,zF,zF,zF,zF,zF,zF,zF,zF,zF,zF,zF,zF,zF,zF,zF,zF,zF,zF,zF,zF,zF,zF,zF,zF,zF,zF,zF] rfl rfl (any_of HT_.out (by kernel_rfl)) (fun _ _ _ h => h) (Or.inl ⟨by rfl, ?_⟩) ?_ ?_
                rotate_left
                ·
                 intro w'
                 go_simp
                 with_reducible rfl
                rotate_left
                ·
                 simp only [Act.put, zS, zT, zU, i64_w, i32_w]
                 rfl
                refine pure_ (i := 2) (N := some 39) (v := ?_) (a' := ?_) #[zB,zB,zB,zF,zF,zF,zF,zF,zF,zF,zF,zF,zF,zF,zF,zF,zF,zF,zF,zF,zF,zF,zF,zF,zF,zF,zF,zF,zF,zF,zF,zF,zF] rfl rfl (any_of HT_.out (by kernel_rfl)) (fun _ _ _ h => h) (Or.inl ⟨by rfl, ?_⟩) ?_ ?_
                rotate_left
                ·
                 intro w'
                 go_simp
                 with_reducible rfl
                rotate_left
                ·
                 simp only [Act.put, zS, zT, zU, i64_w, i32_w]
                 rfl
                refine pure_ (i := 3) (N := some 40) (v := ?_) (a' := ?_) #[zB,zB,zB,zB,zF,zF,zF,zF,zF,zF,zF,zF,zF,zF,zF,zF,zF,zF,zF,zF,zF,zF,zF,zF,zF,zF,zF,zF,zF,zF,zF,zF,zF] rfl rfl (any_of HT_.out (by kernel_rfl)) (fun _ _ _ h => h) (Or.inl ⟨by rfl, ?_⟩) ?_ ?_
                rotate_left
                ·
                 intro w'
                 go_simp
                 with_reducible rfl
                rotate_left
                ·
                 simp only [Act.put, zS, zT, zU, i64_w, i32_w]
                 rfl
                refine pure_ (i := 4) (N := some 41) (v := ?_) (a' := ?_) #[zB,zB,zB,zB,zB,zF,zF,zF,zF,zF,zF,zF,zF,zF,zF,zF,zF,zF,zF,zF,zF,zF,zF,zF,zF,zF,zF,zF,zF,zF,zF,zF,zF] rfl rfl (any_of HT_.out (by kernel_rfl)) (fun _ _ _ h => h) (Or.inl ⟨by rfl, ?_⟩) ?_ ?_
                rotate_left
                ·
                 intro w'
                 go_simp
                 with_reducible rfl
                rotate_left
                ·
                 simp only [Act.put, zS, zT, zU, i64_w, i32_w]
                 rfl
                refine pure_ (i := 5) (N := some 42) (v := ?_) (a' := ?_) #[zB,zB,zB,zB,zB,zB,zF,zF,zF,zF,zF,zF,zF,zF,zF,zF,zF,zF,zF,zF,zF,zF,zF,zF,zF,zF,zF,zF,zF,zF,zF,zF,zF] rfl rfl (any_of HT_.out (by kernel_rfl)) (fun _ _ _ h => h) (Or.inl ⟨by rfl, ?_⟩) ?_ ?_
                rotate_left
                ·
                 intro w'
                 go_simp
                 with_reducible rfl
                rotate_left
                ·
                 simp only [Act.put, zS, zT, zU, i64_w, i32_w]
                 rfl
                refine pure_ (i := 6) (N := some 43) (v := ?_) (a' := ?_) #[zB,zB,zB,zB,zB,zB,zB,zF,zF,zF,zF,zF,zF,zF,zF,zF,zF,zF,zF,zF,zF,zF,zF,zF,zF,zF,zF,zF,zF,zF,zF,zF,zF] rfl rfl (any_of HT_.out (by kernel_rfl)) (fun _ _ _ h => h) (Or.inl ⟨by rfl, ?_⟩) ?_ ?_
                rotate_left
                ·
                 intro w'
                 go_simp
                 with_reducible rfl
                rotate_left
                ·
                 simp only [Act.put, zS, zT, zU, i64_w, i32_w]
                 rfl
                refine take_ (i := 7) (N := some 44) (v := ?_) (a' := ?_) #[zB,zB,zB,zB,zB,zB,zB,zB,zF,zF,zF,zF,zF,zF,zF,zF,zF,zF,zF,zF,zF,zF,zF,zF,zF,zF,zF,zF,zF,zF,zF,zF,zF] rfl rfl (take_ofW HT_.out HW_.out (by kernel_rfl)) (fun _ _ _ h => h) (Or.inl ⟨by rfl, ?_⟩) hHeld ?_ ?_
                rotate_left
                ·
                 rintro w' ⟨s0, s1, s2, s3, s4, s5, s6, s7⟩
                 go_simp
                 with_reducible rfl
                rotate_left
                ·
                 simp only [Act.put, zS, zT, zU, i64_w, i32_w]
                 rfl
                refine take_ (i := 8) (N := some 45) (v := ?_) (a' := ?_) #[zB,zB,zB,zB,zB,zB,zB,zB,zB,zF,zF,zF,zF,zF,zF,zF,zF,zF,zF,zF,zF,zF,zF,zF,zF,zF,zF,zF,zF,zF,zF,zF,zF] rfl rfl (take_ofW HT_.out HW_.out (by kernel_rfl)) (fun _ _ _ h => h) (Or.inl ⟨by rfl, ?_⟩) hHeld ?_ ?_
                rotate_left
                ·
                 rintro w' ⟨s0, s1, s2, s3, s4, s5, s6, s7⟩
                 go_simp
                 with_reducible rfl
                rotate_left
                ·
                 simp only [Act.put, zS, zT, zU, i64_w, i32_w]
                 rfl
                refine one_ (i := 9) (N := some 46) #[zB,zB,zB,zB,zB,zB,zB,zB,zB,zB,zF,zF,zF,zF,zF,zF,zF,zF,zF,zF,zF,zF,zF,zF,zF,zF,zF,zF,zF,zF,zF,zF,zF] rfl rfl (one_of HT_.out (by kernel_rfl)) (by decide) (fun K hK => ?_)
                refine goes_ Tryd.func106 (by kernel_rfl) rfl #[.agg #[.string ((rd_T80 l0 (ji21)).f0), .int .i64 ((rd_T80 l0 (ji21)).f1), .int .i64 ((rd_T80 l0 (ji21)).f2), .string ((rd_T80 l0 (ji21)).f3)], .agg #[.string ((rd_T80 l0 x10_1).f0), .int .i64 ((rd_T80 l0 x10_1).f1), .int .i64 ((rd_T80 l0 x10_1).f2), .string ((rd_T80 l0 x10_1).f3)]] (by rfl) rfl rfl (by (try simp only [List.map_toArray, List.map_cons, List.map_nil]); first | done | (simp only [hji21]; rfl) | rfl | (simp only [List.length_drop, List.length_take]; rfl)) ?_
                with_reducible refine (impl_compareEntries.calls kj7 ((rd_T80 l0 (ji21)).f0) ((rd_T80 l0 (ji21)).f1) ((rd_T80 l0 (ji21)).f2) ((rd_T80 l0 (ji21)).f3) ((rd_T80 l0 x10_1).f0) ((rd_T80 l0 x10_1).f1) ((rd_T80 l0 x10_1).f2) ((rd_T80 l0 x10_1).f3) t666 _ A24.out).mono ?_
                rintro e w29 ⟨rfl, hb⟩
                refine ⟨_, rfl, ?_⟩
                have n0_ := zK (blk_below (g := gb660) (o := .cells #[.string ((rd_T80 l0 x10_1).f0), .int .i64 ((rd_T80 l0 x10_1).f1), .int .i64 ((rd_T80 l0 x10_1).f2), .string ((rd_T80 l0 x10_1).f3)] 80 (0, 0)) (by (with_reducible repeat (first | refine zM ?_ _ | refine zP ?_ | refine zQ ?_ _)); exact BK660.out) hb)
                have n1_ := zK (below_step (by repeat (first | (with_reducible first | exact HB.out | apply zA | apply zN | apply zD | refine below_set ?_ GE660.out) | exact HB.out)) hb)
                clear BK660
                clear HB
                have BK660 := n0_
                have HB := n1_
                clear n0_ n1_
                (try clear hb)
                (try clear hb2)
                (try clear hk)
                (try clear hi)
                refine hK.out _ _ ⟨(blk_cell BK660.out 0).trans rfl, (blk_cell BK660.out 1).trans rfl, (blk_cell BK660.out 2).trans rfl, (blk_cell BK660.out 3).trans rfl, ((HB.out.cell (zL w _ hw665_0)).trans hw665_0), ((HB.out.cell (zL w _ hw665_1)).trans hw665_1), ((HB.out.cell (zL w _ hw665_2)).trans hw665_2), ((HB.out.cell (zL w _ hw665_3)).trans hw665_3)⟩ (fun hHeld => ?_)
                clear hK K
                refine norm_ (a' := ?_) ?_ ?_
                rotate_left
                ·
                 show Act.put _ (some 46) _ = _
                 simp only [Act.put, zS, zT, zU, i64_w, i32_w]
                 rfl
                refine pure_ (i := 10) (N := some 47) (v := ?_) (a' := ?_) #[zB,zB,zB,zB,zB,zB,zB,zB,zB,zB,zB,zF,zF,zF,zF,zF,zF,zF,zF,zF,zF,zF,zF,zF,zF,zF,zF,zF,zF,zF,zF,zF,zF] rfl rfl (any_of HT_.out (by kernel_rfl)) (fun _ _ _ h => h) (Or.inl ⟨by rfl, ?_⟩) ?_ ?_
                rotate_left
                ·
                 intro w'
                 go_simp
                 with_reducible rfl
                rotate_left
                ·
                 simp only [Act.put, zS, zT, zU, i64_w, i32_w]
                 rfl
                refine pure_ (i := 11) (N := some 48) (v := ?_) (a' := ?_) #[zB,zB,zB,zB,zB,zB,zB,zB,zB,zB,zB,zB,zF,zF,zF,zF,zF,zF,zF,zF,zF,zF,zF,zF,zF,zF,zF,zF,zF,zF,zF,zF,zF] rfl rfl (any_of HT_.out (by kernel_rfl)) (fun _ _ _ h => h) (Or.inl ⟨by rfl, ?_⟩) ?_ ?_
                rotate_left
                ·
                 intro w'
                 go_simp
                 with_reducible rfl
                rotate_left
                ·
                 simp only [Act.put, zS, zT, zU, i64_w, i32_w]
                 rfl
                refine pure_ (i := 12) (N := some 49) (v := undef) (a' := ?_) #[zB,zB,zB,zB,zB,zB,zB,zB,zB,zB,zB,zB,zB,zF,zF,zF,zF,zF,zF,zF,zF,zF,zF,zF,zF,zF,zF,zF,zF,zF,zF,zF,zF] rfl rfl (any_of HT_.out (by kernel_rfl)) (fun _ _ _ h => h) (Or.inr ⟨by rfl, rfl⟩) ?_ ?_
                rotate_left
                ·
                 simp only [Act.put, zS, zT, zU, i64_w, i32_w]
                 rfl
                refine pure_ (i := 13) (N := some 50) (v := undef) (a' := ?_) #[zB,zB,zB,zB,zB,zB,zB,zB,zB,zB,zB,zB,zB,zB,zF,zF,zF,zF,zF,zF,zF,zF,zF,zF,zF,zF,zF,zF,zF,zF,zF,zF,zF] rfl rfl (any_of HT_.out (by kernel_rfl)) (fun _ _ _ h => h) (Or.inr ⟨by rfl, rfl⟩) ?_ ?_
                rotate_left
                ·
                 simp only [Act.put, zS, zT, zU, i64_w, i32_w]
                 rfl
                refine pure_ (i := 14) (N := some 51) (v := undef) (a' := ?_) #[zB,zB,zB,zB,zB,zB,zB,zB,zB,zB,zB,zB,zB,zB,zB,zF,zF,zF,zF,zF,zF,zF,zF,zF,zF,zF,zF,zF,zF,zF,zF,zF,zF] rfl rfl (any_of HT_.out (by kernel_rfl)) (fun _ _ _ h => h) (Or.inr ⟨by rfl, rfl⟩) ?_ ?_
                rotate_left
                ·
                 simp only [Act.put, zS, zT, zU, i64_w, i32_w]
                 rfl
                refine pure_ (i := 15) (N := some 52) (v := undef) (a' := ?_) #[zB,zB,zB,zB,zB,zB,zB,zB,zB,zB,zB,zB,zB,zB,zB,zB,zF,zF,zF,zF,zF,zF,zF,zF,zF,zF,zF,zF,zF,zF,zF,zF,zF] rfl rfl (any_of HT_.out (by kernel_rfl)) (fun _ _ _ h => h) (Or.inr ⟨by rfl, rfl⟩) ?_ ?_
                rotate_left
                ·
                 simp only [Act.put, zS, zT, zU, i64_w, i32_w]
                 rfl
                refine pure_ (i := 16) (N := some 53) (v := undef) (a' := ?_) #[zB,zB,zB,zB,zB,zB,zB,zB,zB,zB,zB,zB,zB,zB,zB,zB,zB,zF,zF,zF,zF,zF,zF,zF,zF,zF,zF,zF,zF,zF,zF,zF,zF] rfl rfl (any_of HT_.out (by kernel_rfl)) (fun _ _ _ h => h) (Or.inr ⟨by rfl, rfl⟩) ?_ ?_
                rotate_left
                ·
                 simp only [Act.put, zS, zT, zU, i64_w, i32_w]
                 rfl
                refine pure_ (i := 17) (N := some 54) (v := undef) (a' := ?_) #[zB,zB,zB,zB,zB,zB,zB,zB,zB,zB,zB,zB,zB,zB,zB,zB,zB,zB,zF,zF,zF,zF,zF,zF,zF,zF,zF,zF,zF,zF,zF,zF,zF] rfl rfl (any_of HT_.out (by kernel_rfl)) (fun _ _ _ h => h) (Or.inr ⟨by rfl, rfl⟩) ?_ ?_
                rotate_left
                ·
                 simp only [Act.put, zS, zT, zU, i64_w, i32_w]
                 rfl
                refine pure_ (i := 18) (N := some 55) (v := undef) (a' := ?_) #[zB,zB,zB,zB,zB,zB,zB,zB,zB,zB,zB,zB,zB,zB,zB,zB,zB,zB,zB,zF,zF,zF,zF,zF,zF,zF,zF,zF,zF,zF,zF,zF,zF] rfl rfl (any_of HT_.out (by kernel_rfl)) (fun _ _ _ h => h) (Or.inr ⟨by rfl, rfl⟩) ?_ ?_
                rotate_left
                ·
                 simp only [Act.put, zS, zT, zU, i64_w, i32_w]
                 rfl
                refine pure_ (i := 19) (N := some 56) (v := undef) (a' := ?_) #[zB,zB,zB,zB,zB,zB,zB,zB,zB,zB,zB,zB,zB,zB,zB,zB,zB,zB,zB,zB,zF,zF,zF,zF,zF,zF,zF,zF,zF,zF,zF,zF,zF] rfl rfl (any_of HT_.out (by kernel_rfl)) (fun _ _ _ h => h) (Or.inr ⟨by rfl, rfl⟩) ?_ ?_
                rotate_left
                ·
                 simp only [Act.put, zS, zT, zU, i64_w, i32_w]
                 rfl
                refine pure_ (i := 20) (N := some 57) (v := undef) (a' := ?_) #[zB,zB,zB,zB,zB,zB,zB,zB,zB,zB,zB,zB,zB,zB,zB,zB,zB,zB,zB,zB,zB,zF,zF,zF,zF,zF,zF,zF,zF,zF,zF,zF,zF] rfl rfl (any_of HT_.out (by kernel_rfl)) (fun _ _ _ h => h) (Or.inr ⟨by rfl, rfl⟩) ?_ ?_
                rotate_left
                ·
                 simp only [Act.put, zS, zT, zU, i64_w, i32_w]
                 rfl
                refine pure_ (i := 21) (N := some 58) (v := undef) (a' := ?_) #[zB,zB,zB,zB,zB,zB,zB,zB,zB,zB,zB,zB,zB,zB,zB,zB,zB,zB,zB,zB,zB,zB,zF,zF,zF,zF,zF,zF,zF,zF,zF,zF,zF] rfl rfl (any_of HT_.out (by kernel_rfl)) (fun _ _ _ h => h) (Or.inr ⟨by rfl, rfl⟩) ?_ ?_
                rotate_left
                ·
                 simp only [Act.put, zS, zT, zU, i64_w, i32_w]
                 rfl
                refine pure_ (i := 22) (N := some 59) (v := undef) (a' := ?_) #[zB,zB,zB,zB,zB,zB,zB,zB,zB,zB,zB,zB,zB,zB,zB,zB,zB,zB,zB,zB,zB,zB,zB,zF,zF,zF,zF,zF,zF,zF,zF,zF,zF] rfl rfl (any_of HT_.out (by kernel_rfl)) (fun _ _ _ h => h) (Or.inr ⟨by rfl, rfl⟩) ?_ ?_
                rotate_left
                ·
                 simp only [Act.put, zS, zT, zU, i64_w, i32_w]
                 rfl
                refine pure_ (i := 23) (N := some 60) (v := undef) (a' := ?_) #[zB,zB,zB,zB,zB,zB,zB,zB,zB,zB,zB,zB,zB,zB,zB,zB,zB,zB,zB,zB,zB,zB,zB,zB,zF,zF,zF,zF,zF,zF,zF,zF,zF] rfl rfl (any_of HT_.out (by kernel_rfl)) (fun _ _ _ h => h) (Or.inr ⟨by rfl, rfl⟩) ?_ ?_
                rotate_left
                ·
                 simp only [Act.put, zS, zT, zU, i64_w, i32_w]
                 rfl
                refine pure_ (i := 24) (N := some 61) (v := undef) (a' := ?_) #[zB,zB,zB,zB,zB,zB,zB,zB,zB,zB,zB,zB,zB,zB,zB,zB,zB,zB,zB,zB,zB,zB,zB,zB,zB,zF,zF,zF,zF,zF,zF,zF,zF] rfl rfl (any_of HT_.out (by kernel_rfl)) (fun _ _ _ h => h) (Or.inr ⟨by rfl, rfl⟩) ?_ ?_
                rotate_left
                ·
                 simp only [Act.put, zS, zT, zU, i64_w, i32_w]
                 rfl
                refine pure_ (i := 25) (N := some 62) (v := undef) (a' := ?_) #[zB,zB,zB,zB,zB,zB,zB,zB,zB,zB,zB,zB,zB,zB,zB,zB,zB,zB,zB,zB,zB,zB,zB,zB,zB,zB,zF,zF,zF,zF,zF,zF,zF] rfl rfl (any_of HT_.out (by kernel_rfl)) (fun _ _ _ h => h) (Or.inr ⟨by rfl, rfl⟩) ?_ ?_
                rotate_left
                ·
                 simp only [Act.put, zS, zT, zU, i64_w, i32_w]
                 rfl
                refine pure_ (i := 26) (N := some 63) (v := undef) (a' := ?_) #[zB,zB,zB,zB,zB,zB,zB,zB,zB,zB,zB,zB,zB,zB,zB,zB,zB,zB,zB,zB,zB,zB,zB,zB,zB,zB,zB,zF,zF,zF,zF,zF,zF] rfl rfl (any_of HT_.out (by kernel_rfl)) (fun _ _ _ h => h) (Or.inr ⟨by rfl, rfl⟩) ?_ ?_
                rotate_left
                ·
                 simp only [Act.put, zS, zT, zU, i64_w, i32_w]
                 rfl
                refine pure_ (i := 27) (N := some 64) (v := undef) (a' := ?_) #[zB,zB,zB,zB,zB,zB,zB,zB,zB,zB,zB,zB,zB,zB,zB,zB,zB,zB,zB,zB,zB,zB,zB,zB,zB,zB,zB,zB,zF,zF,zF,zF,zF] rfl rfl (any_of HT_.out (by kernel_rfl)) (fun _ _ _ h => h) (Or.inr ⟨by rfl, rfl⟩) ?_ ?_
                rotate_left
                ·
                 simp only [Act.put, zS, zT, zU, i64_w, i32_w]
                 rfl
                refine pure_ (i := 28) (N := some 65) (v := undef) (a' := ?_) #[zB,zB,zB,zB,zB,zB,zB,zB,zB,zB,zB,zB,zB,zB,zB,zB,zB,zB,zB,zB,zB,zB,zB,zB,zB,zB,zB,zB,zB,zF,zF,zF,zF] rfl rfl (any_of HT_.out (by kernel_rfl)) (fun _ _ _ h => h) (Or.inr ⟨by rfl, rfl⟩) ?_ ?_
                rotate_left
                ·
                 simp only [Act.put, zS, zT, zU, i64_w, i32_w]
                 rfl
                refine pure_ (i := 29) (N := some 66) (v := undef) (a' := ?_) #[zB,zB,zB,zB,zB,zB,zB,zB,zB,zB,zB,zB,zB,zB,zB,zB,zB,zB,zB,zB,zB,zB,zB,zB,zB,zB,zB,zB,zB,zB,zF,zF,zF] rfl rfl (any_of HT_.out (by kernel_rfl)) (fun _ _ _ h => h) (Or.inr ⟨by rfl, rfl⟩) ?_ ?_
                rotate_left
                ·
                 simp only [Act.put, zS, zT, zU, i64_w, i32_w]
                 rfl
                refine pure_ (i := 30) (N := some 67) (v := ?_) (a' := ?_) #[zB,zB,zB,zB,zB,zB,zB,zB,zB,zB,zB,zB,zB,zB,zB,zB,zB,zB,zB,zB,zB,zB,zB,zB,zB,zB,zB,zB,zB,zB,zB,zF,zF] rfl rfl (any_of HT_.out (by kernel_rfl)) (fun _ _ _ h => h) (Or.inl ⟨by rfl, ?_⟩) ?_ ?_
                rotate_left
                ·
                 intro w'
                 go_simp
                 with_reducible rfl
                rotate_left
                ·
                 simp only [Act.put, zS, zT, zU, i64_w, i32_w]
                 rfl
                refine pure_ (i := 31) (N := some 68) (v := ?_) (a' := ?_) #[zB,zB,zB,zB,zB,zB,zB,zB,zB,zB,zB,zB,zB,zB,zB,zB,zB,zB,zB,zB,zB,zB,zB,zB,zB,zB,zB,zB,zB,zB,zB,zB,zF] rfl rfl (any_of HT_.out (by kernel_rfl)) (fun _ _ _ h => h) (Or.inl ⟨by rfl, ?_⟩) ?_ ?_
                rotate_left
                ·
                 intro w'
                 go_simp
                 with_reducible rfl
                rotate_left
                ·
                 simp only [Act.put, zS, zT, zU, i64_w, i32_w]
                 rfl
                refine pure_ (i := 32) (N := some 36) (v := ?_) (a' := ?_) #[zB,zB,zB,zB,zB,zB,zB,zB,zB,zB,zB,zB,zB,zB,zB,zB,zB,zB,zB,zB,zB,zB,zB,zB,zB,zB,zB,zB,zB,zB,zB,zB,zB] rfl rfl (any_of HT_.out (by kernel_rfl)) (fun _ _ _ h => h) (Or.inl ⟨by rfl, ?_⟩) ?_ ?_
                rotate_left
                ·
                 intro w'
                 go_simp
                 with_reducible rfl
                rotate_left
                ·
                 simp only [Act.put, zS, zT, zU, i64_w, i32_w]
                 rfl
                refine done_ (done_of HT_.out (by kernel_rfl)) ?_
                try go_wp2
                go_ret
                exact ⟨by first | rfl | (simp [errW_none, errW_some] <;> rfl) | (simp only [← hji21]; first | rfl | (simp [errW_none, errW_some] <;> rfl)) | (simp [*, errW_none, errW_some] <;> rfl), by repeat (first | (with_reducible first | exact HB.out | apply zA | apply zN | apply zD | refine below_set ?_ GE660.out) | exact HB.out)⟩
               ·
                rw [if_neg c25] at H
                have c25b0 : decide (0 ≤ t666) = false := decide_eq_false c25
                clear c25
                by_cases c30 : ((rd_T80 l0 (ji21)).f0).toList = ((rd_T80 l0 x10_1).f0).toList
                ·
                 rw [if_pos c30] at H
                 have c30b0 : (((rd_T80 l0 (ji21)).f0).toList == ((rd_T80 l0 x10_1).f0).toList) = true := beq_iff_eq.mpr c30
                 have c30b1 : (((rd_T80 l0 (ji21)).f0).toList != ((rd_T80 l0 x10_1).f0).toList) = false := bne_eq_false_iff_eq.mpr c30
                 clear c30
                 by_cases c31 : ((rd_T80 l0 (ji21)).f1) = 0
                 ·
                  rw [if_pos c31] at H
                  have c31b0 : (((rd_T80 l0 (ji21)).f1) == 0) = true := beq_iff_eq.mpr c31
                  have c31b1 : (((rd_T80 l0 (ji21)).f1) != 0) = false := bne_eq_false_iff_eq.mpr c31
                  clear c31
                  obtain rfl := Option.some.inj H
                  have hcz32_0 : wc.cell? ⟨gb660, 0, none⟩ = some (.string ((rd_T80 l0 x10_1).f0)) := (blk_cell BK660.out 0).trans rfl
                  have hcz32_1 : wc.cell? ⟨gb660, 1, none⟩ = some (.int .i64 ((rd_T80 l0 x10_1).f1)) := (blk_cell BK660.out 1).trans rfl
                  have hcz32_2 : wc.cell? ⟨gb660, 2, none⟩ = some (.int .i64 ((rd_T80 l0 x10_1).f2)) := (blk_cell BK660.out 2).trans rfl
                  have hcz32_3 : wc.cell? ⟨gb660, 3, none⟩ = some (.string ((rd_T80 l0 x10_1).f3)) := (blk_cell BK660.out 3).trans rfl
                  have hfz32_0 := blk_frozen BK660.out 0
                  have hfz32_1 := blk_frozen BK660.out 1
                  have hfz32_2 := blk_frozen BK660.out 2
                  have hfz32_3 := blk_frozen BK660.out 3
                  try go_wp2_with (first | ((with_reducible refine gate_callee (f := 105) rfl ?_); refine goesL_ (some 34) rfl rfl Tryd.func105 (by kernel_rfl) rfl #[.int .i64 1, .string ((rd_T80 l0 x10_1).f3)] rfl (by (try simp only [List.map_toArray, List.map_cons, List.map_nil]); first | done | rfl | (simp only [List.length_drop, List.length_take]; rfl)) ?_; (with_reducible refine (impl_isIdOf.calls 1 ((rd_T80 l0 x10_1).f3) true _ A18.out).mono ?_); rintro e w33 ⟨rfl, hb⟩; refine ⟨_, rfl, ?_⟩; have n0_ := zK (blk_below (g := gb660) (o := .cells #[.string ((rd_T80 l0 x10_1).f0), .int .i64 ((rd_T80 l0 x10_1).f1), .int .i64 ((rd_T80 l0 x10_1).f2), .string ((rd_T80 l0 x10_1).f3)] 80 (0, 0)) (by (with_reducible repeat (first | refine zM ?_ _ | refine zP ?_ | refine zQ ?_ _)); exact BK660.out) hb); have n1_ := zK (below_step (by repeat (first | (with_reducible first | exact HB.out | apply zA | apply zN | apply zD | refine below_set ?_ GE660.out) | exact HB.out)) hb); clear BK660; clear HB; have BK660 := n0_; have HB := n1_; clear n0_ n1_; (try clear hb); (try clear hb2); (try clear hk); (try clear hi)))
                  have n0_ := zK (zP BK660.out)
                  have n1_ := zK (zD HB.out)
                  clear BK660
                  clear HB
                  have BK660 := n0_
                  have HB := n1_
                  clear n0_ n1_
                  have p665 : 0 ≤ ((ji21) : Int) := zX (by first | (with_reducible assumption) | assumption)
                  have q665 : (ji21) < (l0.length : Int) := zX (by first | (with_reducible assumption) | assumption)
                  obtain ⟨ad665, e665, hx665_0, hx665_1, hx665_2, hx665_3⟩ := at_T80 HR0.out (ji21) p665 q665
                  have hw665_3 := hx665_3
                  have hw665_2 := hx665_2
                  have hw665_1 := hx665_1
                  have hw665_0 := hx665_0
                  obtain rfl : ad659 = ad665 := (by injection e665)
                  replace hx665_0 := (HB.out.cell (zL w _ hx665_0)).trans hx665_0
                  replace hx665_1 := (HB.out.cell (zL w _ hx665_1)).trans hx665_1
                  replace hx665_2 := (HB.out.cell (zL w _ hx665_2)).trans hx665_2
                  replace hx665_3 := (HB.out.cell (zL w _ hx665_3)).trans hx665_3
                  replace p665 := eq_true p665
                  replace q665 := eq_true q665
                  have p667 : 0 ≤ ((ji21) : Int) := zX (by first | (with_reducible assumption) | assumption)
                  have q667 : (ji21) < (l0.length : Int) := zX (by first | (with_reducible assumption) | assumption)
                  obtain ⟨ad667, e667, hx667_0, hx667_1, hx667_2, hx667_3⟩ := at_T80 HR0.out (ji21) p667 q667
                  have hw667_3 := hx667_3
                  have hw667_2 := hx667_2
                  have hw667_1 := hx667_1
                  have hw667_0 := hx667_0
                  obtain rfl : ad659 = ad667 := (by injection e667)
                  replace hx667_0 := (HB.out.cell (zL w _ hx667_0)).trans hx667_0
                  replace hx667_1 := (HB.out.cell (zL w _ hx667_1)).trans hx667_1
                  replace hx667_2 := (HB.out.cell (zL w _ hx667_2)).trans hx667_2
                  replace hx667_3 := (HB.out.cell (zL w _ hx667_3)).trans hx667_3
                  replace p667 := eq_true p667
                  replace q667 := eq_true q667
                  have p668 : 0 ≤ ((ji21) : Int) := zX (by first | (with_reducible assumption) | assumption)
                  have q668 : (ji21) < (l0.length : Int) := zX (by first | (with_reducible assumption) | assumption)
                  obtain ⟨ad668, e668, hx668_0, hx668_1, hx668_2, hx668_3⟩ := at_T80 HR0.out (ji21) p668 q668
                  have hw668_3 := hx668_3
                  have hw668_2 := hx668_2
                  have hw668_1 := hx668_1
                  have hw668_0 := hx668_0
                  obtain rfl : ad659 = ad668 := (by injection e668)
                  replace hx668_0 := (HB.out.cell (zL w _ hx668_0)).trans hx668_0
                  replace hx668_1 := (HB.out.cell (zL w _ hx668_1)).trans hx668_1
                  replace hx668_2 := (HB.out.cell (zL w _ hx668_2)).trans hx668_2
                  replace hx668_3 := (HB.out.cell (zL w _ hx668_3)).trans hx668_3
                  replace p668 := eq_true p668
                  replace q668 := eq_true q668
                  refine start_ (n := 33) (S := fun w' => w'.cell? ⟨gb660, 0, none⟩ = some (.string ((rd_T80 l0 x10_1).f0)) ∧ w'.cell? ⟨gb660, 1, none⟩ = some (.int .i64 ((rd_T80 l0 x10_1).f1)) ∧ w'.cell? ⟨gb660, 2, none⟩ = some (.int .i64 ((rd_T80 l0 x10_1).f2)) ∧ w'.cell? ⟨gb660, 3, none⟩ = some (.string ((rd_T80 l0 x10_1).f3)) ∧ w'.cell? (ad659.add (((ji21)).toNat * 4)) = some (.string ((rd_T80 l0 (ji21)).f0)) ∧ w'.cell? ⟨(ad659.add (((ji21)).toNat * 4)).block, (ad659.add (((ji21)).toNat * 4)).off + 1, none⟩ = some (.int .i64 ((rd_T80 l0 (ji21)).f1)) ∧ w'.cell? ⟨(ad659.add (((ji21)).toNat * 4)).block, (ad659.add (((ji21)).toNat * 4)).off + 2, none⟩ = some (.int .i64 ((rd_T80 l0 (ji21)).f2)) ∧ w'.cell? ⟨(ad659.add (((ji21)).toNat * 4)).block, (ad659.add (((ji21)).toNat * 4)).off + 3, none⟩ = some (.string ((rd_T80 l0 (ji21)).f3)) ∧ w'.cell? (ad659.add (((ji21)).toNat * 4)) = some (.string ((rd_T80 l0 (ji21)).f0)) ∧ w'.cell? ⟨(ad659.add (((ji21)).toNat * 4)).block, (ad659.add (((ji21)).toNat * 4)).off + 1, none⟩ = some (.int .i64 ((rd_T80 l0 (ji21)).f1)) ∧ w'.cell? ⟨(ad659.add (((ji21)).toNat * 4)).block, (ad659.add (((ji21)).toNat * 4)).off + 2, none⟩ = some (.int .i64 ((rd_T80 l0 (ji21)).f2)) ∧ w'.cell? ⟨(ad659.add (((ji21)).toNat * 4)).block, (ad659.add (((ji21)).toNat * 4)).off + 3, none⟩ = some (.string ((rd_T80 l0 (ji21)).f3)) ∧ w'.cell? (ad659.add (((ji21)).toNat * 4)) = some (.string ((rd_T80 l0 (ji21)).f0)) ∧ w'.cell? ⟨(ad659.add (((ji21)).toNat * 4)).block, (ad659.add (((ji21)).toNat * 4)).off + 1, none⟩ = some (.int .i64 ((rd_T80 l0 (ji21)).f1)) ∧ w'.cell? ⟨(ad659.add (((ji21)).toNat * 4)).block, (ad659.add (((ji21)).toNat * 4)).off + 2, none⟩ = some (.int .i64 ((rd_T80 l0 (ji21)).f2)) ∧ w'.cell? ⟨(ad659.add (((ji21)).toNat * 4)).block, (ad659.add (((ji21)).toNat * 4)).off + 3, none⟩ = some (.string ((rd_T80 l0 (ji21)).f3))) (ds := []) #[zF,zF,zF,zF,zF,zF,zF,zF,zF,zF,zF,zF,zF,zF,zF,zF,zF,zF,zF,zF,zF,zF,zF,zF,zF,zF,zF,zF,zF,zF,zF,zF,zF] (by kernel_rfl) rfl rfl ⟨(blk_cell BK660.out 0).trans rfl, (blk_cell BK660.out 1).trans rfl, (blk_cell BK660.out 2).trans rfl, (blk_cell BK660.out 3).trans rfl, ((HB.out.cell (zL w _ hw665_0)).trans hw665_0), ((HB.out.cell (zL w _ hw665_1)).trans hw665_1), ((HB.out.cell (zL w _ hw665_2)).trans hw665_2), ((HB.out.cell (zL w _ hw665_3)).trans hw665_3), ((HB.out.cell (zL w _ hw667_0)).trans hw667_0), ((HB.out.cell (zL w _ hw667_1)).trans hw667_1), ((HB.out.cell (zL w _ hw667_2)).trans hw667_2), ((HB.out.cell (zL w _ hw667_3)).trans hw667_3), ((HB.out.cell (zL w _ hw668_0)).trans hw668_0), ((HB.out.cell (zL w _ hw668_1)).trans hw668_1), ((HB.out.cell (zL w _ hw668_2)).trans hw668_2), ((HB.out.cell (zL w _ hw668_3)).trans hw668_3)⟩ (fun hHeld => ?_); refine with_tabW impl_IndexFault.tab12 impl_IndexFault.bits12 (fun HT_ HW_ => ?_)
                  generalize w33.drew = w34 at BK660 HB hx665_0 hx665_1 hx665_2 hx665_3 hx667_0 hx667_1 hx667_2 hx667_3 hx668_0 hx668_1 hx668_2 hx668_3 hHeld ⊢
                  refine pure_ (i := 0) (N := some 37) (v := ?_) (a' := ?_) #[zB,zF,zF,zF,zF,zF,zF,zF,zF,zF,zF,zF,zF,zF,zF,zF,zF,zF,zF,zF,zF,zF,zF,zF,zF,zF,zF,zF,zF,zF,zF,zF,zF] rfl rfl (any_of HT_.out (by kernel_rfl)) (fun _ _ _ h => h) (Or.inl ⟨by rfl, ?_⟩) ?_ ?_
                  rotate_left
                  ·
                   intro w'
                   go_simp
                   with_reducible rfl
                  rotate_left
                  ·
                   simp only [Act.put, zS, zT, zU, i64_w, i32_w]
                   rfl
                  refine pure_ (i := 1) (N := some 38) (v := ?_) (a' := ?_) #[zB,zB,zF,zF,zF,zF,zF,zF,zF,zF,zF,zF,zF,zF,zF,zF,zF,zF,zF,zF,zF,zF,zF,zF,zF,zF,zF,zF,zF,zF,zF,zF,zF] rfl rfl (any_of HT_.out (by kernel_rfl)) (fun _ _ _ h => h) (Or.inl ⟨by rfl, ?_⟩) ?_ ?_
                  rotate_left
                  ·
                   intro w'
                   go_simp
                   with_reducible rfl
                  rotate_left
                  ·
                   simp only [Act.put, zS, zT, zU, i64_w, i32_w]
                   rfl
                  refine pure_ (i := 2) (N := some 39) (v := ?_) (a' := ?_) #[zB,zB,zB,zF,zF,zF,zF,zF,zF,zF,zF,zF,zF,zF,zF,zF,zF,zF,zF,zF,zF,zF,zF,zF,zF,zF,zF,zF,zF,zF,zF,zF,zF] rfl rfl (any_of HT_.out (by kernel_rfl)) (fun _ _ _ h => h) (Or.inl ⟨by rfl, ?_⟩) ?_ ?_
                  rotate_left
                  ·
                   intro w'
                   go_simp
                   with_reducible rfl
                  rotate_left
                  ·
                   simp only [Act.put, zS, zT, zU, i64_w, i32_w]
                   rfl
                  refine pure_ (i := 3) (N := some 40) (v := ?_) (a' := ?_) #[zB,zB,zB,zB,zF,zF,zF,zF,zF,zF,zF,zF,zF,zF,zF,zF,zF,zF,zF,zF,zF,zF,zF,zF,zF,zF,zF,zF,zF,zF,zF,zF,zF] rfl rfl (any_of HT_.out (by kernel_rfl)) (fun _ _ _ h => h) (Or.inl ⟨by rfl, ?_⟩) ?_ ?_
                  rotate_left
                  ·
                   intro w'
                   go_simp
                   with_reducible rfl
                  rotate_left
                  ·
                   simp only [Act.put, zS, zT, zU, i64_w, i32_w]
                   rfl
                  refine pure_ (i := 4) (N := some 41) (v := ?_) (a' := ?_) #[zB,zB,zB,zB,zB,zF,zF,zF,zF,zF,zF,zF,zF,zF,zF,zF,zF,zF,zF,zF,zF,zF,zF,zF,zF,zF,zF,zF,zF,zF,zF,zF,zF] rfl rfl (any_of HT_.out (by kernel_rfl)) (fun _ _ _ h => h) (Or.inl ⟨by rfl, ?_⟩) ?_ ?_
                  rotate_left
                  ·
                   intro w'
                   go_simp
                   with_reducible rfl
                  rotate_left
                  ·
                   simp only [Act.put, zS, zT, zU, i64_w, i32_w]
                   rfl
                  refine pure_ (i := 5) (N := some 42) (v := ?_) (a' := ?_) #[zB,zB,zB,zB,zB,zB,zF,zF,zF,zF,zF,zF,zF,zF,zF,zF,zF,zF,zF,zF,zF,zF,zF,zF,zF,zF,zF,zF,zF,zF,zF,zF,zF] rfl rfl (any_of HT_.out (by kernel_rfl)) (fun _ _ _ h => h) (Or.inl ⟨by rfl, ?_⟩) ?_ ?_
                  rotate_left
                  ·
                   intro w'
                   go_simp
                   with_reducible rfl
                  rotate_left
                  ·
                   simp only [Act.put, zS, zT, zU, i64_w, i32_w]
                   rfl
                  refine pure_ (i := 6) (N := some 43) (v := ?_) (a' := ?_) #[zB,zB,zB,zB,zB,zB,zB,zF,zF,zF,zF,zF,zF,zF,zF,zF,zF,zF,zF,zF,zF,zF,zF,zF,zF,zF,zF,zF,zF,zF,zF,zF,zF] rfl rfl (any_of HT_.out (by kernel_rfl)) (fun _ _ _ h => h) (Or.inl ⟨by rfl, ?_⟩) ?_ ?_
                  rotate_left
                  ·
                   intro w'
                   go_simp
                   with_reducible rfl
                  rotate_left
                  ·
                   simp only [Act.put, zS, zT, zU, i64_w, i32_w]
                   rfl
                  refine take_ (i := 7) (N := some 44) (v := ?_) (a' := ?_) #[zB,zB,zB,zB,zB,zB,zB,zB,zF,zF,zF,zF,zF,zF,zF,zF,zF,zF,zF,zF,zF,zF,zF,zF,zF,zF,zF,zF,zF,zF,zF,zF,zF] rfl rfl (take_ofW HT_.out HW_.out (by kernel_rfl)) (fun _ _ _ h => h) (Or.inl ⟨by rfl, ?_⟩) hHeld ?_ ?_
                  rotate_left
                  ·
                   rintro w' ⟨s0, s1, s2, s3, s4, s5, s6, s7, s8, s9, s10, s11, s12, s13, s14, s15⟩
                   go_simp
                   with_reducible rfl
                  rotate_left
                  ·
                   simp only [Act.put, zS, zT, zU, i64_w, i32_w]
                   rfl
                  refine take_ (i := 8) (N := some 45) (v := ?_) (a' := ?_) #[zB,zB,zB,zB,zB,zB,zB,zB,zB,zF,zF,zF,zF,zF,zF,zF,zF,zF,zF,zF,zF,zF,zF,zF,zF,zF,zF,zF,zF,zF,zF,zF,zF] rfl rfl (take_ofW HT_.out HW_.out (by kernel_rfl)) (fun _ _ _ h => h) (Or.inl ⟨by rfl, ?_⟩) hHeld ?_ ?_
                  rotate_left
                  ·
                   rintro w' ⟨s0, s1, s2, s3, s4, s5, s6, s7, s8, s9, s10, s11, s12, s13, s14, s15⟩
                   go_simp
                   with_reducible rfl
                  rotate_left
                  ·
                   simp only [Act.put, zS, zT, zU, i64_w, i32_w]
                   rfl
                  refine one_ (i := 9) (N := some 46) #[zB,zB,zB,zB,zB,zB,zB,zB,zB,zB,zF,zF,zF,zF,zF,zF,zF,zF,zF,zF,zF,zF,zF,zF,zF,zF,zF,zF,zF,zF,zF,zF,zF] rfl rfl (one_of HT_.out (by kernel_rfl)) (by decide) (fun K hK => ?_)
                  refine goes_ Tryd.func106 (by kernel_rfl) rfl #[.agg #[.string ((rd_T80 l0 (ji21)).f0), .int .i64 ((rd_T80 l0 (ji21)).f1), .int .i64 ((rd_T80 l0 (ji21)).f2), .string ((rd_T80 l0 (ji21)).f3)], .agg #[.string ((rd_T80 l0 x10_1).f0), .int .i64 ((rd_T80 l0 x10_1).f1), .int .i64 ((rd_T80 l0 x10_1).f2), .string ((rd_T80 l0 x10_1).f3)]] (by rfl) rfl rfl (by (try simp only [List.map_toArray, List.map_cons, List.map_nil]); first | done | (simp only [hji21]; rfl) | rfl | (simp only [List.length_drop, List.length_take]; rfl)) ?_
                  with_reducible refine (impl_compareEntries.calls kj7 ((rd_T80 l0 (ji21)).f0) ((rd_T80 l0 (ji21)).f1) ((rd_T80 l0 (ji21)).f2) ((rd_T80 l0 (ji21)).f3) ((rd_T80 l0 x10_1).f0) ((rd_T80 l0 x10_1).f1) ((rd_T80 l0 x10_1).f2) ((rd_T80 l0 x10_1).f3) t666 _ A24.out).mono ?_
                  rintro e w35 ⟨rfl, hb⟩
                  refine ⟨_, rfl, ?_⟩
                  have n0_ := zK (blk_below (g := gb660) (o := .cells #[.string ((rd_T80 l0 x10_1).f0), .int .i64 ((rd_T80 l0 x10_1).f1), .int .i64 ((rd_T80 l0 x10_1).f2), .string ((rd_T80 l0 x10_1).f3)] 80 (0, 0)) (by (with_reducible repeat (first | refine zM ?_ _ | refine zP ?_ | refine zQ ?_ _)); exact BK660.out) hb)
                  have n1_ := zK (below_step (by repeat (first | (with_reducible first | exact HB.out | apply zA | apply zN | apply zD | refine below_set ?_ GE660.out) | exact HB.out)) hb)
                  clear BK660
                  clear HB
                  have BK660 := n0_
                  have HB := n1_
                  clear n0_ n1_
                  (try clear hb)
                  (try clear hb2)
                  (try clear hk)
                  (try clear hi)
                  refine hK.out _ _ ⟨(blk_cell BK660.out 0).trans rfl, (blk_cell BK660.out 1).trans rfl, (blk_cell BK660.out 2).trans rfl, (blk_cell BK660.out 3).trans rfl, ((HB.out.cell (zL w _ hw665_0)).trans hw665_0), ((HB.out.cell (zL w _ hw665_1)).trans hw665_1), ((HB.out.cell (zL w _ hw665_2)).trans hw665_2), ((HB.out.cell (zL w _ hw665_3)).trans hw665_3), ((HB.out.cell (zL w _ hw667_0)).trans hw667_0), ((HB.out.cell (zL w _ hw667_1)).trans hw667_1), ((HB.out.cell (zL w _ hw667_2)).trans hw667_2), ((HB.out.cell (zL w _ hw667_3)).trans hw667_3), ((HB.out.cell (zL w _ hw668_0)).trans hw668_0), ((HB.out.cell (zL w _ hw668_1)).trans hw668_1), ((HB.out.cell (zL w _ hw668_2)).trans hw668_2), ((HB.out.cell (zL w _ hw668_3)).trans hw668_3)⟩ (fun hHeld => ?_)
                  clear hK K
                  refine norm_ (a' := ?_) ?_ ?_
                  rotate_left
                  ·
                   show Act.put _ (some 46) _ = _
                   simp only [Act.put, zS, zT, zU, i64_w, i32_w]
                   rfl
                  refine pure_ (i := 10) (N := some 47) (v := ?_) (a' := ?_) #[zB,zB,zB,zB,zB,zB,zB,zB,zB,zB,zB,zF,zF,zF,zF,zF,zF,zF,zF,zF,zF,zF,zF,zF,zF,zF,zF,zF,zF,zF,zF,zF,zF] rfl rfl (any_of HT_.out (by kernel_rfl)) (fun _ _ _ h => h) (Or.inl ⟨by rfl, ?_⟩) ?_ ?_
                  rotate_left
                  ·
                   intro w'
                   go_simp
                   with_reducible rfl
                  rotate_left
                  ·
                   simp only [Act.put, zS, zT, zU, i64_w, i32_w]
                   rfl
                  refine pure_ (i := 11) (N := some 48) (v := ?_) (a' := ?_) #[zB,zB,zB,zB,zB,zB,zB,zB,zB,zB,zB,zB,zF,zF,zF,zF,zF,zF,zF,zF,zF,zF,zF,zF,zF,zF,zF,zF,zF,zF,zF,zF,zF] rfl rfl (any_of HT_.out (by kernel_rfl)) (fun _ _ _ h => h) (Or.inl ⟨by rfl, ?_⟩) ?_ ?_
                  rotate_left
                  ·
                   intro w'
                   go_simp
                   with_reducible rfl
                  rotate_left
                  ·
                   simp only [Act.put, zS, zT, zU, i64_w, i32_w]
                   rfl
                  refine pure_ (i := 12) (N := some 49) (v := ?_) (a' := ?_) #[zB,zB,zB,zB,zB,zB,zB,zB,zB,zB,zB,zB,zB,zF,zF,zF,zF,zF,zF,zF,zF,zF,zF,zF,zF,zF,zF,zF,zF,zF,zF,zF,zF] rfl rfl (any_of HT_.out (by kernel_rfl)) (fun _ _ _ h => h) (Or.inl ⟨by rfl, ?_⟩) ?_ ?_
                  rotate_left
                  ·
                   intro w'
                   go_simp
                   with_reducible rfl
                  rotate_left
                  ·
                   simp only [Act.put, zS, zT, zU, i64_w, i32_w]
                   rfl
                  refine pure_ (i := 13) (N := some 50) (v := ?_) (a' := ?_) #[zB,zB,zB,zB,zB,zB,zB,zB,zB,zB,zB,zB,zB,zB,zF,zF,zF,zF,zF,zF,zF,zF,zF,zF,zF,zF,zF,zF,zF,zF,zF,zF,zF] rfl rfl (any_of HT_.out (by kernel_rfl)) (fun _ _ _ h => h) (Or.inl ⟨by rfl, ?_⟩) ?_ ?_
                  rotate_left
                  ·
                   intro w'
                   go_simp
                   with_reducible rfl
                  rotate_left
                  ·
                   simp only [Act.put, zS, zT, zU, i64_w, i32_w]
                   rfl
                  refine pure_ (i := 14) (N := some 51) (v := ?_) (a' := ?_) #[zB,zB,zB,zB,zB,zB,zB,zB,zB,zB,zB,zB,zB,zB,zB,zF,zF,zF,zF,zF,zF,zF,zF,zF,zF,zF,zF,zF,zF,zF,zF,zF,zF] rfl rfl (any_of HT_.out (by kernel_rfl)) (fun _ _ _ h => h) (Or.inl ⟨by rfl, ?_⟩) ?_ ?_
                  rotate_left
                  ·
                   intro w'
                   go_simp
                   with_reducible rfl
                  rotate_left
                  ·
                   simp only [Act.put, zS, zT, zU, i64_w, i32_w]
                   rfl
                  refine pure_ (i := 15) (N := some 52) (v := ?_) (a' := ?_) #[zB,zB,zB,zB,zB,zB,zB,zB,zB,zB,zB,zB,zB,zB,zB,zB,zF,zF,zF,zF,zF,zF,zF,zF,zF,zF,zF,zF,zF,zF,zF,zF,zF] rfl rfl (any_of HT_.out (by kernel_rfl)) (fun _ _ _ h => h) (Or.inl ⟨by rfl, ?_⟩) ?_ ?_
                  rotate_left
                  ·
                   intro w'
                   go_simp
                   with_reducible rfl
                  rotate_left
                  ·
                   simp only [Act.put, zS, zT, zU, i64_w, i32_w]
                   rfl
                  refine pure_ (i := 16) (N := some 53) (v := ?_) (a' := ?_) #[zB,zB,zB,zB,zB,zB,zB,zB,zB,zB,zB,zB,zB,zB,zB,zB,zB,zF,zF,zF,zF,zF,zF,zF,zF,zF,zF,zF,zF,zF,zF,zF,zF] rfl rfl (any_of HT_.out (by kernel_rfl)) (fun _ _ _ h => h) (Or.inl ⟨by rfl, ?_⟩) ?_ ?_
                  rotate_left
                  ·
                   intro w'
                   go_simp
                   with_reducible rfl
                  rotate_left
                  ·
                   simp only [Act.put, zS, zT, zU, i64_w, i32_w]
                   rfl
                  refine pure_ (i := 18) (N := some 55) (v := ?_) (a' := ?_) #[zB,zB,zB,zB,zB,zB,zB,zB,zB,zB,zB,zB,zB,zB,zB,zB,zB,zF,zB,zF,zF,zF,zF,zF,zF,zF,zF,zF,zF,zF,zF,zF,zF] rfl rfl (any_of HT_.out (by kernel_rfl)) (fun _ _ _ h => h) (Or.inl ⟨by rfl, ?_⟩) ?_ ?_
                  rotate_left
                  ·
                   intro w'
                   go_simp
                   with_reducible rfl
                  rotate_left
                  ·
                   simp only [Act.put, zS, zT, zU, i64_w, i32_w]
                   rfl
                  refine take_ (i := 17) (N := some 54) (v := ?_) (a' := ?_) #[zB,zB,zB,zB,zB,zB,zB,zB,zB,zB,zB,zB,zB,zB,zB,zB,zB,zB,zB,zF,zF,zF,zF,zF,zF,zF,zF,zF,zF,zF,zF,zF,zF] rfl rfl (take_ofW HT_.out HW_.out (by kernel_rfl)) (fun _ _ _ h => h) (Or.inl ⟨by rfl, ?_⟩) hHeld ?_ ?_
                  rotate_left
                  ·
                   rintro w' ⟨s0, s1, s2, s3, s4, s5, s6, s7, s8, s9, s10, s11, s12, s13, s14, s15⟩
                   go_simp
                   with_reducible rfl
                  rotate_left
                  ·
                   simp only [Act.put, zS, zT, zU, i64_w, i32_w]
                   rfl
                  refine take_ (i := 19) (N := some 56) (v := ?_) (a' := ?_) #[zB,zB,zB,zB,zB,zB,zB,zB,zB,zB,zB,zB,zB,zB,zB,zB,zB,zB,zB,zB,zF,zF,zF,zF,zF,zF,zF,zF,zF,zF,zF,zF,zF] rfl rfl (take_ofW HT_.out HW_.out (by kernel_rfl)) (fun _ _ _ h => h) (Or.inl ⟨by rfl, ?_⟩) hHeld ?_ ?_
                  rotate_left
                  ·
                   rintro w' ⟨s0, s1, s2, s3, s4, s5, s6, s7, s8, s9, s10, s11, s12, s13, s14, s15⟩
                   go_simp
                   with_reducible rfl
                  rotate_left
                  ·
                   simp only [Act.put, zS, zT, zU, i64_w, i32_w]
                   rfl
                  refine pure_ (i := 20) (N := some 57) (v := ?_) (a' := ?_) #[zB,zB,zB,zB,zB,zB,zB,zB,zB,zB,zB,zB,zB,zB,zB,zB,zB,zB,zB,zB,zB,zF,zF,zF,zF,zF,zF,zF,zF,zF,zF,zF,zF] rfl rfl (any_of HT_.out (by kernel_rfl)) (fun _ _ _ h => h) (Or.inl ⟨by rfl, ?_⟩) ?_ ?_
                  rotate_left
                  ·
                   intro w'
                   go_simp
                   with_reducible rfl
                  rotate_left
                  ·
                   simp only [Act.put, zS, zT, zU, i64_w, i32_w]
                   rfl
                  refine pure_ (i := 21) (N := some 58) (v := ?_) (a' := ?_) #[zB,zB,zB,zB,zB,zB,zB,zB,zB,zB,zB,zB,zB,zB,zB,zB,zB,zB,zB,zB,zB,zB,zF,zF,zF,zF,zF,zF,zF,zF,zF,zF,zF] rfl rfl (any_of HT_.out (by kernel_rfl)) (fun _ _ _ h => h) (Or.inl ⟨by rfl, ?_⟩) ?_ ?_
                  rotate_left
                  ·
                   intro w'
                   go_simp
                   with_reducible rfl
                  rotate_left
                  ·
                   simp only [Act.put, zS, zT, zU, i64_w, i32_w]
                   rfl
                  refine pure_ (i := 22) (N := some 59) (v := ?_) (a' := ?_) #[zB,zB,zB,zB,zB,zB,zB,zB,zB,zB,zB,zB,zB,zB,zB,zB,zB,zB,zB,zB,zB,zB,zB,zF,zF,zF,zF,zF,zF,zF,zF,zF,zF] rfl rfl (any_of HT_.out (by kernel_rfl)) (fun _ _ _ h => h) (Or.inl ⟨by rfl, ?_⟩) ?_ ?_
                  rotate_left
                  ·
                   intro w'
                   go_simp
                   with_reducible rfl
                  rotate_left
                  ·
                   simp only [Act.put, zS, zT, zU, i64_w, i32_w]
                   rfl
                  refine pure_ (i := 23) (N := some 60) (v := ?_) (a' := ?_) #[zB,zB,zB,zB,zB,zB,zB,zB,zB,zB,zB,zB,zB,zB,zB,zB,zB,zB,zB,zB,zB,zB,zB,zB,zF,zF,zF,zF,zF,zF,zF,zF,zF] rfl rfl (any_of HT_.out (by kernel_rfl)) (fun _ _ _ h => h) (Or.inl ⟨by rfl, ?_⟩) ?_ ?_
                  rotate_left
                  ·
                   intro w'
                   go_simp
                   with_reducible rfl
                  rotate_left
                  ·
                   simp only [Act.put, zS, zT, zU, i64_w, i32_w]
                   rfl
                  refine pure_ (i := 24) (N := some 61) (v := ?_) (a' := ?_) #[zB,zB,zB,zB,zB,zB,zB,zB,zB,zB,zB,zB,zB,zB,zB,zB,zB,zB,zB,zB,zB,zB,zB,zB,zB,zF,zF,zF,zF,zF,zF,zF,zF] rfl rfl (any_of HT_.out (by kernel_rfl)) (fun _ _ _ h => h) (Or.inl ⟨by rfl, ?_⟩) ?_ ?_
                  rotate_left
                  ·
                   intro w'
                   go_simp
                   with_reducible rfl
                  rotate_left
                  ·
                   simp only [Act.put, zS, zT, zU, i64_w, i32_w]
                   rfl
                  refine pure_ (i := 25) (N := some 62) (v := ?_) (a' := ?_) #[zB,zB,zB,zB,zB,zB,zB,zB,zB,zB,zB,zB,zB,zB,zB,zB,zB,zB,zB,zB,zB,zB,zB,zB,zB,zB,zF,zF,zF,zF,zF,zF,zF] rfl rfl (any_of HT_.out (by kernel_rfl)) (fun _ _ _ h => h) (Or.inl ⟨by rfl, ?_⟩) ?_ ?_
                  rotate_left
                  ·
                   intro w'
                   go_simp
                   with_reducible rfl
                  rotate_left
                  ·
                   simp only [Act.put, zS, zT, zU, i64_w, i32_w]
                   rfl
                  refine pure_ (i := 26) (N := some 63) (v := ?_) (a' := ?_) #[zB,zB,zB,zB,zB,zB,zB,zB,zB,zB,zB,zB,zB,zB,zB,zB,zB,zB,zB,zB,zB,zB,zB,zB,zB,zB,zB,zF,zF,zF,zF,zF,zF] rfl rfl (any_of HT_.out (by kernel_rfl)) (fun _ _ _ h => h) (Or.inl ⟨by rfl, ?_⟩) ?_ ?_
                  rotate_left
                  ·
                   intro w'
                   go_simp
                   with_reducible rfl
                  rotate_left
                  ·
                   simp only [Act.put, zS, zT, zU, i64_w, i32_w]
                   rfl
                  refine take_ (i := 27) (N := some 64) (v := ?_) (a' := ?_) #[zB,zB,zB,zB,zB,zB,zB,zB,zB,zB,zB,zB,zB,zB,zB,zB,zB,zB,zB,zB,zB,zB,zB,zB,zB,zB,zB,zB,zF,zF,zF,zF,zF] rfl rfl (take_ofW HT_.out HW_.out (by kernel_rfl)) (fun _ _ _ h => h) (Or.inl ⟨by rfl, ?_⟩) hHeld ?_ ?_
                  rotate_left
                  ·
                   rintro w' ⟨s0, s1, s2, s3, s4, s5, s6, s7, s8, s9, s10, s11, s12, s13, s14, s15⟩
                   go_simp
                   with_reducible rfl
                  rotate_left
                  ·
                   simp only [Act.put, zS, zT, zU, i64_w, i32_w]
                   rfl
                  refine pure_ (i := 28) (N := some 65) (v := ?_) (a' := ?_) #[zB,zB,zB,zB,zB,zB,zB,zB,zB,zB,zB,zB,zB,zB,zB,zB,zB,zB,zB,zB,zB,zB,zB,zB,zB,zB,zB,zB,zB,zF,zF,zF,zF] rfl rfl (any_of HT_.out (by kernel_rfl)) (fun _ _ _ h => h) (Or.inl ⟨by rfl, ?_⟩) ?_ ?_
                  rotate_left
                  ·
                   intro w'
                   go_simp
                   with_reducible rfl
                  rotate_left
                  ·
                   simp only [Act.put, zS, zT, zU, i64_w, i32_w]
                   rfl
                  refine pure_ (i := 29) (N := some 66) (v := ?_) (a' := ?_) #[zB,zB,zB,zB,zB,zB,zB,zB,zB,zB,zB,zB,zB,zB,zB,zB,zB,zB,zB,zB,zB,zB,zB,zB,zB,zB,zB,zB,zB,zB,zF,zF,zF] rfl rfl (any_of HT_.out (by kernel_rfl)) (fun _ _ _ h => h) (Or.inl ⟨by rfl, ?_⟩) ?_ ?_
                  rotate_left
                  ·
                   intro w'
                   go_simp
                   with_reducible rfl
                  rotate_left
                  ·
                   simp only [Act.put, zS, zT, zU, i64_w, i32_w]
                   rfl
                  refine pure_ (i := 30) (N := some 67) (v := ?_) (a' := ?_) #[zB,zB,zB,zB,zB,zB,zB,zB,zB,zB,zB,zB,zB,zB,zB,zB,zB,zB,zB,zB,zB,zB,zB,zB,zB,zB,zB,zB,zB,zB,zB,zF,zF] rfl rfl (any_of HT_.out (by kernel_rfl)) (fun _ _ _ h => h) (Or.inl ⟨by rfl, ?_⟩) ?_ ?_
                  rotate_left
                  ·
                   intro w'
                   go_simp
                   with_reducible rfl
                  rotate_left
                  ·
                   simp only [Act.put, zS, zT, zU, i64_w, i32_w]
                   rfl
                  refine pure_ (i := 31) (N := some 68) (v := ?_) (a' := ?_) #[zB,zB,zB,zB,zB,zB,zB,zB,zB,zB,zB,zB,zB,zB,zB,zB,zB,zB,zB,zB,zB,zB,zB,zB,zB,zB,zB,zB,zB,zB,zB,zB,zF] rfl rfl (any_of HT_.out (by kernel_rfl)) (fun _ _ _ h => h) (Or.inl ⟨by rfl, ?_⟩) ?_ ?_
                  rotate_left
                  ·
                   intro w'
                   go_simp
                   with_reducible rfl
                  rotate_left
                  ·
                   simp only [Act.put, zS, zT, zU, i64_w, i32_w]
                   rfl
                  refine pure_ (i := 32) (N := some 36) (v := ?_) (a' := ?_) #[zB,zB,zB,zB,zB,zB,zB,zB,zB,zB,zB,zB,zB,zB,zB,zB,zB,zB,zB,zB,zB,zB,zB,zB,zB,zB,zB,zB,zB,zB,zB,zB,zB] rfl rfl (any_of HT_.out (by kernel_rfl)) (fun _ _ _ h => h) (Or.inl ⟨by rfl, ?_⟩) ?_ ?_
                  rotate_left
                  ·
                   intro w'
                   go_simp
                   with_reducible rfl
                  rotate_left
                  ·
                   simp only [Act.put, zS, zT, zU, i64_w, i32_w]
                   rfl
                  refine done_ (done_of HT_.out (by kernel_rfl)) ?_
                  try go_wp2
                  go_ret
                  exact ⟨by first | rfl | (simp [errW_none, errW_some] <;> rfl) | (simp only [← hji21]; first | rfl | (simp [errW_none, errW_some] <;> rfl)) | (simp [*, errW_none, errW_some] <;> rfl), by repeat (first | (with_reducible first | exact HB.out | apply zA | apply zN | apply zD | refine below_set ?_ GE660.out) | exact HB.out)⟩
                 ·
                  rw [if_neg c31] at H
                  have c31b0 : (((rd_T80 l0 (ji21)).f1) == 0) = false := beq_eq_false_iff_ne.mpr c31
                  have c31b1 : (((rd_T80 l0 (ji21)).f1) != 0) = true := bne_iff_ne.mpr c31
                  have H' := zK H
                  clear H
                  have hcz36_0 : wc.cell? ⟨gb660, 0, none⟩ = some (.string ((rd_T80 l0 x10_1).f0)) := (blk_cell BK660.out 0).trans rfl
                  have hcz36_1 : wc.cell? ⟨gb660, 1, none⟩ = some (.int .i64 ((rd_T80 l0 x10_1).f1)) := (blk_cell BK660.out 1).trans rfl
                  have hcz36_2 : wc.cell? ⟨gb660, 2, none⟩ = some (.int .i64 ((rd_T80 l0 x10_1).f2)) := (blk_cell BK660.out 2).trans rfl
                  have hcz36_3 : wc.cell? ⟨gb660, 3, none⟩ = some (.string ((rd_T80 l0 x10_1).f3)) := (blk_cell BK660.out 3).trans rfl
                  have hfz36_0 := blk_frozen BK660.out 0
                  have hfz36_1 := blk_frozen BK660.out 1
                  have hfz36_2 := blk_frozen BK660.out 2
                  have hfz36_3 := blk_frozen BK660.out 3
                  try go_wp2_with (first | ((with_reducible refine gate_callee (f := 105) rfl ?_); refine goesL_ (some 34) rfl rfl Tryd.func105 (by kernel_rfl) rfl #[.int .i64 1, .string ((rd_T80 l0 x10_1).f3)] rfl (by (try simp only [List.map_toArray, List.map_cons, List.map_nil]); first | done | rfl | (simp only [List.length_drop, List.length_take]; rfl)) ?_; (with_reducible refine (impl_isIdOf.calls 1 ((rd_T80 l0 x10_1).f3) true _ A18.out).mono ?_); rintro e w37 ⟨rfl, hb⟩; refine ⟨_, rfl, ?_⟩; have n0_ := zK (blk_below (g := gb660) (o := .cells #[.string ((rd_T80 l0 x10_1).f0), .int .i64 ((rd_T80 l0 x10_1).f1), .int .i64 ((rd_T80 l0 x10_1).f2), .string ((rd_T80 l0 x10_1).f3)] 80 (0, 0)) (by (with_reducible repeat (first | refine zM ?_ _ | refine zP ?_ | refine zQ ?_ _)); exact BK660.out) hb); have n1_ := zK (below_step (by repeat (first | (with_reducible first | exact HB.out | apply zA | apply zN | apply zD | refine below_set ?_ GE660.out) | exact HB.out)) hb); clear BK660; clear HB; have BK660 := n0_; have HB := n1_; clear n0_ n1_; (try clear hb); (try clear hb2); (try clear hk); (try clear hi)))
                  have n0_ := zK (zP BK660.out)
                  have n1_ := zK (zD HB.out)
                  clear BK660
                  clear HB
                  have BK660 := n0_
                  have HB := n1_
                  clear n0_ n1_
                  have p665 : 0 ≤ ((ji21) : Int) := zX (by first | (with_reducible assumption) | assumption)
                  have q665 : (ji21) < (l0.length : Int) := zX (by first | (with_reducible assumption) | assumption)
                  obtain ⟨ad665, e665, hx665_0, hx665_1, hx665_2, hx665_3⟩ := at_T80 HR0.out (ji21) p665 q665
                  have hw665_3 := hx665_3
                  have hw665_2 := hx665_2
                  have hw665_1 := hx665_1
                  have hw665_0 := hx665_0
                  obtain rfl : ad659 = ad665 := (by injection e665)
                  replace hx665_0 := (HB.out.cell (zL w _ hx665_0)).trans hx665_0
                  replace hx665_1 := (HB.out.cell (zL w _ hx665_1)).trans hx665_1
                  replace hx665_2 := (HB.out.cell (zL w _ hx665_2)).trans hx665_2
                  replace hx665_3 := (HB.out.cell (zL w _ hx665_3)).trans hx665_3
                  replace p665 := eq_true p665
                  replace q665 := eq_true q665
                  have p667 : 0 ≤ ((ji21) : Int) := zX (by first | (with_reducible assumption) | assumption)
                  have q667 : (ji21) < (l0.length : Int) := zX (by first | (with_reducible assumption) | assumption)
                  obtain ⟨ad667, e667, hx667_0, hx667_1, hx667_2, hx667_3⟩ := at_T80 HR0.out (ji21) p667 q667
                  have hw667_3 := hx667_3
                  have hw667_2 := hx667_2
                  have hw667_1 := hx667_1
                  have hw667_0 := hx667_0
                  obtain rfl : ad659 = ad667 := (by injection e667)
                  replace hx667_0 := (HB.out.cell (zL w _ hx667_0)).trans hx667_0
                  replace hx667_1 := (HB.out.cell (zL w _ hx667_1)).trans hx667_1
                  replace hx667_2 := (HB.out.cell (zL w _ hx667_2)).trans hx667_2
                  replace hx667_3 := (HB.out.cell (zL w _ hx667_3)).trans hx667_3
                  replace p667 := eq_true p667
                  replace q667 := eq_true q667
                  have p668 : 0 ≤ ((ji21) : Int) := zX (by first | (with_reducible assumption) | assumption)
                  have q668 : (ji21) < (l0.length : Int) := zX (by first | (with_reducible assumption) | assumption)
                  obtain ⟨ad668, e668, hx668_0, hx668_1, hx668_2, hx668_3⟩ := at_T80 HR0.out (ji21) p668 q668
                  have hw668_3 := hx668_3
                  have hw668_2 := hx668_2
                  have hw668_1 := hx668_1
                  have hw668_0 := hx668_0
                  obtain rfl : ad659 = ad668 := (by injection e668)
                  replace hx668_0 := (HB.out.cell (zL w _ hx668_0)).trans hx668_0
                  replace hx668_1 := (HB.out.cell (zL w _ hx668_1)).trans hx668_1
                  replace hx668_2 := (HB.out.cell (zL w _ hx668_2)).trans hx668_2
                  replace hx668_3 := (HB.out.cell (zL w _ hx668_3)).trans hx668_3
                  replace p668 := eq_true p668
                  replace q668 := eq_true q668
                  refine start_ (n := 33) (S := fun w' => w'.cell? ⟨gb660, 0, none⟩ = some (.string ((rd_T80 l0 x10_1).f0)) ∧ w'.cell? ⟨gb660, 1, none⟩ = some (.int .i64 ((rd_T80 l0 x10_1).f1)) ∧ w'.cell? ⟨gb660, 2, none⟩ = some (.int .i64 ((rd_T80 l0 x10_1).f2)) ∧ w'.cell? ⟨gb660, 3, none⟩ = some (.string ((rd_T80 l0 x10_1).f3)) ∧ w'.cell? (ad659.add (((ji21)).toNat * 4)) = some (.string ((rd_T80 l0 (ji21)).f0)) ∧ w'.cell? ⟨(ad659.add (((ji21)).toNat * 4)).block, (ad659.add (((ji21)).toNat * 4)).off + 1, none⟩ = some (.int .i64 ((rd_T80 l0 (ji21)).f1)) ∧ w'.cell? ⟨(ad659.add (((ji21)).toNat * 4)).block, (ad659.add (((ji21)).toNat * 4)).off + 2, none⟩ = some (.int .i64 ((rd_T80 l0 (ji21)).f2)) ∧ w'.cell? ⟨(ad659.add (((ji21)).toNat * 4)).block, (ad659.add (((ji21)).toNat * 4)).off + 3, none⟩ = some (.string ((rd_T80 l0 (ji21)).f3)) ∧ w'.cell? (ad659.add (((ji21)).toNat * 4)) = some (.string ((rd_T80 l0 (ji21)).f0)) ∧ w'.cell? ⟨(ad659.add (((ji21)).toNat * 4)).block, (ad659.add (((ji21)).toNat * 4)).off + 1, none⟩ = some (.int .i64 ((rd_T80 l0 (ji21)).f1)) ∧ w'.cell? ⟨(ad659.add (((ji21)).toNat * 4)).block, (ad659.add (((ji21)).toNat * 4)).off + 2, none⟩ = some (.int .i64 ((rd_T80 l0 (ji21)).f2)) ∧ w'.cell? ⟨(ad659.add (((ji21)).toNat * 4)).block, (ad659.add (((ji21)).toNat * 4)).off + 3, none⟩ = some (.string ((rd_T80 l0 (ji21)).f3)) ∧ w'.cell? (ad659.add (((ji21)).toNat * 4)) = some (.string ((rd_T80 l0 (ji21)).f0)) ∧ w'.cell? ⟨(ad659.add (((ji21)).toNat * 4)).block, (ad659.add (((ji21)).toNat * 4)).off + 1, none⟩ = some (.int .i64 ((rd_T80 l0 (ji21)).f1)) ∧ w'.cell? ⟨(ad659.add (((ji21)).toNat * 4)).block, (ad659.add (((ji21)).toNat * 4)).off + 2, none⟩ = some (.int .i64 ((rd_T80 l0 (ji21)).f2)) ∧ w'.cell? ⟨(ad659.add (((ji21)).toNat * 4)).block, (ad659.add (((ji21)).toNat * 4)).off + 3, none⟩ = some (.string ((rd_T80 l0 (ji21)).f3))) (ds := []) #[zF,zF,zF,zF,zF,zF,zF,zF,zF,zF,zF,zF,zF,zF,zF,zF,zF,zF,zF,zF,zF,zF,zF,zF,zF,zF,zF,zF,zF,zF,zF,zF,zF] (by kernel_rfl) rfl rfl ⟨(blk_cell BK660.out 0).trans rfl, (blk_cell BK660.out 1).trans rfl, (blk_cell BK660.out 2).trans rfl, (blk_cell BK660.out 3).trans rfl, ((HB.out.cell (zL w _ hw665_0)).trans hw665_0), ((HB.out.cell (zL w _ hw665_1)).trans hw665_1), ((HB.out.cell (zL w _ hw665_2)).trans hw665_2), ((HB.out.cell (zL w _ hw665_3)).trans hw665_3), ((HB.out.cell (zL w _ hw667_0)).trans hw667_0), ((HB.out.cell (zL w _ hw667_1)).trans hw667_1), ((HB.out.cell (zL w _ hw667_2)).trans hw667_2), ((HB.out.cell (zL w _ hw667_3)).trans hw667_3), ((HB.out.cell (zL w _ hw668_0)).trans hw668_0), ((HB.out.cell (zL w _ hw668_1)).trans hw668_1), ((HB.out.cell (zL w _ hw668_2)).trans hw668_2), ((HB.out.cell (zL w _ hw668_3)).trans hw668_3)⟩ (fun hHeld => ?_); refine with_tabW impl_IndexFault.tab12 impl_IndexFault.bits12 (fun HT_ HW_ => ?_)
                  generalize w37.drew = w38 at BK660 HB hx665_0 hx665_1 hx665_2 hx665_3 hx667_0 hx667_1 hx667_2 hx667_3 hx668_0 hx668_1 hx668_2 hx668_3 hHeld ⊢
                  refine pure_ (i := 0) (N := some 37) (v := ?_) (a' := ?_) #[zB,zF,zF,zF,zF,zF,zF,zF,zF,zF,zF,zF,zF,zF,zF,zF,zF,zF,zF,zF,zF,zF,zF,zF,zF,zF,zF,zF,zF,zF,zF,zF,zF] rfl rfl (any_of HT_.out (by kernel_rfl)) (fun _ _ _ h => h) (Or.inl ⟨by rfl, ?_⟩) ?_ ?_
                  rotate_left
                  ·
                   intro w'
                   go_simp
                   with_reducible rfl
                  rotate_left
                  ·
                   simp only [Act.put, zS, zT, zU, i64_w, i32_w]
                   rfl
                  refine pure_ (i := 1) (N := some 38) (v := ?_) (a' := ?_) #[zB,zB,zF,zF,zF,zF,zF,zF,zF,zF,zF,zF,zF,zF,zF,zF,zF,zF,zF,zF,zF,zF,zF,zF,zF,zF,zF,zF,zF,zF,zF,zF,zF] rfl rfl (any_of HT_.out (by kernel_rfl)) (fun _ _ _ h => h) (Or.inl ⟨by rfl, ?_⟩) ?_ ?_
                  rotate_left
                  ·
                   intro w'
                   go_simp
                   with_reducible rfl
                  rotate_left
                  ·
                   simp only [Act.put, zS, zT, zU, i64_w, i32_w]
                   rfl
                  refine pure_ (i := 2) (N := some 39) (v := ?_) (a' := ?_) #[zB,zB,zB,zF,zF,zF,zF,zF,zF,zF,zF,zF,zF,zF,zF,zF,zF,zF,zF,zF,zF,zF,zF,zF,zF,zF,zF,zF,zF,zF,zF,zF,zF] rfl rfl (any_of HT_.out (by kernel_rfl)) (fun _ _ _ h => h) (Or.inl ⟨by rfl, ?_⟩) ?_ ?_
                  rotate_left
                  ·
                   intro w'
                   go_simp
                   with_reducible rfl
                  rotate_left
                  ·
                   simp only [Act.put, zS, zT, zU, i64_w, i32_w]
                   rfl
                  refine pure_ (i := 3) (N := some 40) (v := ?_) (a' := ?_) #[zB,zB,zB,zB,zF,zF,zF,zF,zF,zF,zF,zF,zF,zF,zF,zF,zF,zF,zF,zF,zF,zF,zF,zF,zF,zF,zF,zF,zF,zF,zF,zF,zF] rfl rfl (any_of HT_.out (by kernel_rfl)) (fun _ _ _ h => h) (Or.inl ⟨by rfl, ?_⟩) ?_ ?_
                  rotate_left
                  ·
                   intro w'
                   go_simp
                   with_reducible rfl
                  rotate_left
                  ·
                   simp only [Act.put, zS, zT, zU, i64_w, i32_w]
                   rfl
                  refine pure_ (i := 4) (N := some 41) (v := ?_) (a' := ?_) #[zB,zB,zB,zB,zB,zF,zF,zF,zF,zF,zF,zF,zF,zF,zF,zF,zF,zF,zF,zF,zF,zF,zF,zF,zF,zF,zF,zF,zF,zF,zF,zF,zF] rfl rfl (any_of HT_.out (by kernel_rfl)) (fun _ _ _ h => h) (Or.inl ⟨by rfl, ?_⟩) ?_ ?_
                  rotate_left
                  ·
                   intro w'
                   go_simp
                   with_reducible rfl
                  rotate_left
                  ·
                   simp only [Act.put, zS, zT, zU, i64_w, i32_w]
                   rfl
                  refine pure_ (i := 5) (N := some 42) (v := ?_) (a' := ?_) #[zB,zB,zB,zB,zB,zB,zF,zF,zF,zF,zF,zF,zF,zF,zF,zF,zF,zF,zF,zF,zF,zF,zF,zF,zF,zF,zF,zF,zF,zF,zF,zF,zF] rfl rfl (any_of HT_.out (by kernel_rfl)) (fun _ _ _ h => h) (Or.inl ⟨by rfl, ?_⟩) ?_ ?_
                  rotate_left
                  ·
                   intro w'
                   go_simp
                   with_reducible rfl
                  rotate_left
                  ·
                   simp only [Act.put, zS, zT, zU, i64_w, i32_w]
                   rfl
                  refine pure_ (i := 6) (N := some 43) (v := ?_) (a' := ?_) #[zB,zB,zB,zB,zB,zB,zB,zF,zF,zF,zF,zF,zF,zF,zF,zF,zF,zF,zF,zF,zF,zF,zF,zF,zF,zF,zF,zF,zF,zF,zF,zF,zF] rfl rfl (any_of HT_.out (by kernel_rfl)) (fun _ _ _ h => h) (Or.inl ⟨by rfl, ?_⟩) ?_ ?_
                  rotate_left
                  ·
                   intro w'
                   go_simp
                   with_reducible rfl
                  rotate_left
                  ·
                   simp only [Act.put, zS, zT, zU, i64_w, i32_w]
                   rfl
                  refine take_ (i := 7) (N := some 44) (v := ?_) (a' := ?_) #[zB,zB,zB,zB,zB,zB,zB,zB,zF,zF,zF,zF,zF,zF,zF,zF,zF,zF,zF,zF,zF,zF,zF,zF,zF,zF,zF,zF,zF,zF,zF,zF,zF] rfl rfl (take_ofW HT_.out HW_.out (by kernel_rfl)) (fun _ _ _ h => h) (Or.inl ⟨by rfl, ?_⟩) hHeld ?_ ?_
                  rotate_left
                  ·
                   rintro w' ⟨s0, s1, s2, s3, s4, s5, s6, s7, s8, s9, s10, s11, s12, s13, s14, s15⟩
                   go_simp
                   with_reducible rfl
                  rotate_left
                  ·
                   simp only [Act.put, zS, zT, zU, i64_w, i32_w]
                   rfl
                  refine take_ (i := 8) (N := some 45) (v := ?_) (a' := ?_) #[zB,zB,zB,zB,zB,zB,zB,zB,zB,zF,zF,zF,zF,zF,zF,zF,zF,zF,zF,zF,zF,zF,zF,zF,zF,zF,zF,zF,zF,zF,zF,zF,zF] rfl rfl (take_ofW HT_.out HW_.out (by kernel_rfl)) (fun _ _ _ h => h) (Or.inl ⟨by rfl, ?_⟩) hHeld ?_ ?_
                  rotate_left
                  ·
                   rintro w' ⟨s0, s1, s2, s3, s4, s5, s6, s7, s8, s9, s10, s11, s12, s13, s14, s15⟩
                   go_simp
                   with_reducible rfl
                  rotate_left
                  ·
                   simp only [Act.put, zS, zT, zU, i64_w, i32_w]
                   rfl
                  refine one_ (i := 9) (N := some 46) #[zB,zB,zB,zB,zB,zB,zB,zB,zB,zB,zF,zF,zF,zF,zF,zF,zF,zF,zF,zF,zF,zF,zF,zF,zF,zF,zF,zF,zF,zF,zF,zF,zF] rfl rfl (one_of HT_.out (by kernel_rfl)) (by decide) (fun K hK => ?_)
                  refine goes_ Tryd.func106 (by kernel_rfl) rfl #[.agg #[.string ((rd_T80 l0 (ji21)).f0), .int .i64 ((rd_T80 l0 (ji21)).f1), .int .i64 ((rd_T80 l0 (ji21)).f2), .string ((rd_T80 l0 (ji21)).f3)], .agg #[.string ((rd_T80 l0 x10_1).f0), .int .i64 ((rd_T80 l0 x10_1).f1), .int .i64 ((rd_T80 l0 x10_1).f2), .string ((rd_T80 l0 x10_1).f3)]] (by rfl) rfl rfl (by (try simp only [List.map_toArray, List.map_cons, List.map_nil]); first | done | (simp only [hji21]; rfl) | rfl | (simp only [List.length_drop, List.length_take]; rfl)) ?_
                  with_reducible refine (impl_compareEntries.calls kj7 ((rd_T80 l0 (ji21)).f0) ((rd_T80 l0 (ji21)).f1) ((rd_T80 l0 (ji21)).f2) ((rd_T80 l0 (ji21)).f3) ((rd_T80 l0 x10_1).f0) ((rd_T80 l0 x10_1).f1) ((rd_T80 l0 x10_1).f2) ((rd_T80 l0 x10_1).f3) t666 _ A24.out).mono ?_
                  rintro e w39 ⟨rfl, hb⟩
                  refine ⟨_, rfl, ?_⟩
                  have n0_ := zK (blk_below (g := gb660) (o := .cells #[.string ((rd_T80 l0 x10_1).f0), .int .i64 ((rd_T80 l0 x10_1).f1), .int .i64 ((rd_T80 l0 x10_1).f2), .string ((rd_T80 l0 x10_1).f3)] 80 (0, 0)) (by (with_reducible repeat (first | refine zM ?_ _ | refine zP ?_ | refine zQ ?_ _)); exact BK660.out) hb)
                  have n1_ := zK (below_step (by repeat (first | (with_reducible first | exact HB.out | apply zA | apply zN | apply zD | refine below_set ?_ GE660.out) | exact HB.out)) hb)
                  clear BK660
                  clear HB
                  have BK660 := n0_
                  have HB := n1_
                  clear n0_ n1_
                  (try clear hb)
                  (try clear hb2)
                  (try clear hk)
                  (try clear hi)
                  refine hK.out _ _ ⟨(blk_cell BK660.out 0).trans rfl, (blk_cell BK660.out 1).trans rfl, (blk_cell BK660.out 2).trans rfl, (blk_cell BK660.out 3).trans rfl, ((HB.out.cell (zL w _ hw665_0)).trans hw665_0), ((HB.out.cell (zL w _ hw665_1)).trans hw665_1), ((HB.out.cell (zL w _ hw665_2)).trans hw665_2), ((HB.out.cell (zL w _ hw665_3)).trans hw665_3), ((HB.out.cell (zL w _ hw667_0)).trans hw667_0), ((HB.out.cell (zL w _ hw667_1)).trans hw667_1), ((HB.out.cell (zL w _ hw667_2)).trans hw667_2), ((HB.out.cell (zL w _ hw667_3)).trans hw667_3), ((HB.out.cell (zL w _ hw668_0)).trans hw668_0), ((HB.out.cell (zL w _ hw668_1)).trans hw668_1), ((HB.out.cell (zL w _ hw668_2)).trans hw668_2), ((HB.out.cell (zL w _ hw668_3)).trans hw668_3)⟩ (fun hHeld => ?_)
                  clear hK K
                  refine norm_ (a' := ?_) ?_ ?_
                  rotate_left
                  ·
                   show Act.put _ (some 46) _ = _
                   simp only [Act.put, zS, zT, zU, i64_w, i32_w]
                   rfl
                  refine pure_ (i := 10) (N := some 47) (v := ?_) (a' := ?_) #[zB,zB,zB,zB,zB,zB,zB,zB,zB,zB,zB,zF,zF,zF,zF,zF,zF,zF,zF,zF,zF,zF,zF,zF,zF,zF,zF,zF,zF,zF,zF,zF,zF] rfl rfl (any_of HT_.out (by kernel_rfl)) (fun _ _ _ h => h) (Or.inl ⟨by rfl, ?_⟩) ?_ ?_
                  rotate_left
                  ·
                   intro w'
                   go_simp
                   with_reducible rfl
                  rotate_left
                  ·
                   simp only [Act.put, zS, zT, zU, i64_w, i32_w]
                   rfl
                  refine pure_ (i := 11) (N := some 48) (v := ?_) (a' := ?_) #[zB,zB,zB,zB,zB,zB,zB,zB,zB,zB,zB,zB,zF,zF,zF,zF,zF,zF,zF,zF,zF,zF,zF,zF,zF,zF,zF,zF,zF,zF,zF,zF,zF] rfl rfl (any_of HT_.out (by kernel_rfl)) (fun _ _ _ h => h) (Or.inl ⟨by rfl, ?_⟩) ?_ ?_
                  rotate_left
                  ·
                   intro w'
                   go_simp
                   with_reducible rfl
                  rotate_left
                  ·
                   simp only [Act.put, zS, zT, zU, i64_w, i32_w]
                   rfl
                  refine pure_ (i := 12) (N := some 49) (v := ?_) (a' := ?_) #[zB,zB,zB,zB,zB,zB,zB,zB,zB,zB,zB,zB,zB,zF,zF,zF,zF,zF,zF,zF,zF,zF,zF,zF,zF,zF,zF,zF,zF,zF,zF,zF,zF] rfl rfl (any_of HT_.out (by kernel_rfl)) (fun _ _ _ h => h) (Or.inl ⟨by rfl, ?_⟩) ?_ ?_
                  rotate_left
                  ·
                   intro w'
                   go_simp
                   with_reducible rfl
                  rotate_left
                  ·
                   simp only [Act.put, zS, zT, zU, i64_w, i32_w]
                   rfl
                  refine pure_ (i := 13) (N := some 50) (v := ?_) (a' := ?_) #[zB,zB,zB,zB,zB,zB,zB,zB,zB,zB,zB,zB,zB,zB,zF,zF,zF,zF,zF,zF,zF,zF,zF,zF,zF,zF,zF,zF,zF,zF,zF,zF,zF] rfl rfl (any_of HT_.out (by kernel_rfl)) (fun _ _ _ h => h) (Or.inl ⟨by rfl, ?_⟩) ?_ ?_
                  rotate_left
                  ·
                   intro w'
                   go_simp
                   with_reducible rfl
                  rotate_left
                  ·
                   simp only [Act.put, zS, zT, zU, i64_w, i32_w]
                   rfl
                  refine pure_ (i := 14) (N := some 51) (v := ?_) (a' := ?_) #[zB,zB,zB,zB,zB,zB,zB,zB,zB,zB,zB,zB,zB,zB,zB,zF,zF,zF,zF,zF,zF,zF,zF,zF,zF,zF,zF,zF,zF,zF,zF,zF,zF] rfl rfl (any_of HT_.out (by kernel_rfl)) (fun _ _ _ h => h) (Or.inl ⟨by rfl, ?_⟩) ?_ ?_
                  rotate_left
                  ·
                   intro w'
                   go_simp
                   with_reducible rfl
                  rotate_left
                  ·
                   simp only [Act.put, zS, zT, zU, i64_w, i32_w]
                   rfl
                  refine pure_ (i := 15) (N := some 52) (v := ?_) (a' := ?_) #[zB,zB,zB,zB,zB,zB,zB,zB,zB,zB,zB,zB,zB,zB,zB,zB,zF,zF,zF,zF,zF,zF,zF,zF,zF,zF,zF,zF,zF,zF,zF,zF,zF] rfl rfl (any_of HT_.out (by kernel_rfl)) (fun _ _ _ h => h) (Or.inl ⟨by rfl, ?_⟩) ?_ ?_
                  rotate_left
                  ·
                   intro w'
                   go_simp
                   with_reducible rfl
                  rotate_left
                  ·
                   simp only [Act.put, zS, zT, zU, i64_w, i32_w]
                   rfl
                  refine pure_ (i := 16) (N := some 53) (v := ?_) (a' := ?_) #[zB,zB,zB,zB,zB,zB,zB,zB,zB,zB,zB,zB,zB,zB,zB,zB,zB,zF,zF,zF,zF,zF,zF,zF,zF,zF,zF,zF,zF,zF,zF,zF,zF] rfl rfl (any_of HT_.out (by kernel_rfl)) (fun _ _ _ h => h) (Or.inl ⟨by rfl, ?_⟩) ?_ ?_
                  rotate_left
                  ·
                   intro w'
                   go_simp
                   with_reducible rfl
                  rotate_left
                  ·
                   simp only [Act.put, zS, zT, zU, i64_w, i32_w]
                   rfl
                  refine pure_ (i := 18) (N := some 55) (v := ?_) (a' := ?_) #[zB,zB,zB,zB,zB,zB,zB,zB,zB,zB,zB,zB,zB,zB,zB,zB,zB,zF,zB,zF,zF,zF,zF,zF,zF,zF,zF,zF,zF,zF,zF,zF,zF] rfl rfl (any_of HT_.out (by kernel_rfl)) (fun _ _ _ h => h) (Or.inl ⟨by rfl, ?_⟩) ?_ ?_
                  rotate_left
                  ·
                   intro w'
                   go_simp
                   with_reducible rfl
                  rotate_left
                  ·
                   simp only [Act.put, zS, zT, zU, i64_w, i32_w]
                   rfl
                  refine take_ (i := 17) (N := some 54) (v := ?_) (a' := ?_) #[zB,zB,zB,zB,zB,zB,zB,zB,zB,zB,zB,zB,zB,zB,zB,zB,zB,zB,zB,zF,zF,zF,zF,zF,zF,zF,zF,zF,zF,zF,zF,zF,zF] rfl rfl (take_ofW HT_.out HW_.out (by kernel_rfl)) (fun _ _ _ h => h) (Or.inl ⟨by rfl, ?_⟩) hHeld ?_ ?_
                  rotate_left
                  ·
                   rintro w' ⟨s0, s1, s2, s3, s4, s5, s6, s7, s8, s9, s10, s11, s12, s13, s14, s15⟩
                   go_simp
                   with_reducible rfl
                  rotate_left
                  ·
                   simp only [Act.put, zS, zT, zU, i64_w, i32_w]
                   rfl
                  refine take_ (i := 19) (N := some 56) (v := ?_) (a' := ?_) #[zB,zB,zB,zB,zB,zB,zB,zB,zB,zB,zB,zB,zB,zB,zB,zB,zB,zB,zB,zB,zF,zF,zF,zF,zF,zF,zF,zF,zF,zF,zF,zF,zF] rfl rfl (take_ofW HT_.out HW_.out (by kernel_rfl)) (fun _ _ _ h => h) (Or.inl ⟨by rfl, ?_⟩) hHeld ?_ ?_
                  rotate_left
                  ·
                   rintro w' ⟨s0, s1, s2, s3, s4, s5, s6, s7, s8, s9, s10, s11, s12, s13, s14, s15⟩
                   go_simp
                   with_reducible rfl
                  rotate_left
                  ·
                   simp only [Act.put, zS, zT, zU, i64_w, i32_w]
                   rfl
                  refine pure_ (i := 20) (N := some 57) (v := ?_) (a' := ?_) #[zB,zB,zB,zB,zB,zB,zB,zB,zB,zB,zB,zB,zB,zB,zB,zB,zB,zB,zB,zB,zB,zF,zF,zF,zF,zF,zF,zF,zF,zF,zF,zF,zF] rfl rfl (any_of HT_.out (by kernel_rfl)) (fun _ _ _ h => h) (Or.inl ⟨by rfl, ?_⟩) ?_ ?_
                  rotate_left
                  ·
                   intro w'
                   go_simp
                   with_reducible rfl
                  rotate_left
                  ·
                   simp only [Act.put, zS, zT, zU, i64_w, i32_w]
                   rfl
                  refine pure_ (i := 21) (N := some 58) (v := ?_) (a' := ?_) #[zB,zB,zB,zB,zB,zB,zB,zB,zB,zB,zB,zB,zB,zB,zB,zB,zB,zB,zB,zB,zB,zB,zF,zF,zF,zF,zF,zF,zF,zF,zF,zF,zF] rfl rfl (any_of HT_.out (by kernel_rfl)) (fun _ _ _ h => h) (Or.inl ⟨by rfl, ?_⟩) ?_ ?_
                  rotate_left
                  ·
                   intro w'
                   go_simp
                   with_reducible rfl
                  rotate_left
                  ·
                   simp only [Act.put, zS, zT, zU, i64_w, i32_w]
                   rfl
                  refine pure_ (i := 22) (N := some 59) (v := ?_) (a' := ?_) #[zB,zB,zB,zB,zB,zB,zB,zB,zB,zB,zB,zB,zB,zB,zB,zB,zB,zB,zB,zB,zB,zB,zB,zF,zF,zF,zF,zF,zF,zF,zF,zF,zF] rfl rfl (any_of HT_.out (by kernel_rfl)) (fun _ _ _ h => h) (Or.inl ⟨by rfl, ?_⟩) ?_ ?_
                  rotate_left
                  ·
                   intro w'
                   go_simp
                   with_reducible rfl
                  rotate_left
                  ·
                   simp only [Act.put, zS, zT, zU, i64_w, i32_w]
                   rfl
                  refine pure_ (i := 23) (N := some 60) (v := ?_) (a' := ?_) #[zB,zB,zB,zB,zB,zB,zB,zB,zB,zB,zB,zB,zB,zB,zB,zB,zB,zB,zB,zB,zB,zB,zB,zB,zF,zF,zF,zF,zF,zF,zF,zF,zF] rfl rfl (any_of HT_.out (by kernel_rfl)) (fun _ _ _ h => h) (Or.inl ⟨by rfl, ?_⟩) ?_ ?_
                  rotate_left
                  ·
                   intro w'
                   go_simp
                   with_reducible rfl
                  rotate_left
                  ·
                   simp only [Act.put, zS, zT, zU, i64_w, i32_w]
                   rfl
                  refine pure_ (i := 24) (N := some 61) (v := ?_) (a' := ?_) #[zB,zB,zB,zB,zB,zB,zB,zB,zB,zB,zB,zB,zB,zB,zB,zB,zB,zB,zB,zB,zB,zB,zB,zB,zB,zF,zF,zF,zF,zF,zF,zF,zF] rfl rfl (any_of HT_.out (by kernel_rfl)) (fun _ _ _ h => h) (Or.inl ⟨by rfl, ?_⟩) ?_ ?_
                  rotate_left
                  ·
                   intro w'
                   go_simp
                   with_reducible rfl
                  rotate_left
                  ·
                   simp only [Act.put, zS, zT, zU, i64_w, i32_w]
                   rfl
                  refine pure_ (i := 25) (N := some 62) (v := ?_) (a' := ?_) #[zB,zB,zB,zB,zB,zB,zB,zB,zB,zB,zB,zB,zB,zB,zB,zB,zB,zB,zB,zB,zB,zB,zB,zB,zB,zB,zF,zF,zF,zF,zF,zF,zF] rfl rfl (any_of HT_.out (by kernel_rfl)) (fun _ _ _ h => h) (Or.inl ⟨by rfl, ?_⟩) ?_ ?_
                  rotate_left
                  ·
                   intro w'
                   go_simp
                   with_reducible rfl
                  rotate_left
                  ·
                   simp only [Act.put, zS, zT, zU, i64_w, i32_w]
                   rfl
                  refine pure_ (i := 26) (N := some 63) (v := ?_) (a' := ?_) #[zB,zB,zB,zB,zB,zB,zB,zB,zB,zB,zB,zB,zB,zB,zB,zB,zB,zB,zB,zB,zB,zB,zB,zB,zB,zB,zB,zF,zF,zF,zF,zF,zF] rfl rfl (any_of HT_.out (by kernel_rfl)) (fun _ _ _ h => h) (Or.inl ⟨by rfl, ?_⟩) ?_ ?_
                  rotate_left
                  ·
                   intro w'
                   go_simp
                   with_reducible rfl
                  rotate_left
                  ·
                   simp only [Act.put, zS, zT, zU, i64_w, i32_w]
                   rfl
                  refine take_ (i := 27) (N := some 64) (v := ?_) (a' := ?_) #[zB,zB,zB,zB,zB,zB,zB,zB,zB,zB,zB,zB,zB,zB,zB,zB,zB,zB,zB,zB,zB,zB,zB,zB,zB,zB,zB,zB,zF,zF,zF,zF,zF] rfl rfl (take_ofW HT_.out HW_.out (by kernel_rfl)) (fun _ _ _ h => h) (Or.inl ⟨by rfl, ?_⟩) hHeld ?_ ?_
                  rotate_left
                  ·
                   rintro w' ⟨s0, s1, s2, s3, s4, s5, s6, s7, s8, s9, s10, s11, s12, s13, s14, s15⟩
                   go_simp
                   with_reducible rfl
                  rotate_left
                  ·
                   simp only [Act.put, zS, zT, zU, i64_w, i32_w]
                   rfl
                  refine pure_ (i := 28) (N := some 65) (v := ?_) (a' := ?_) #[zB,zB,zB,zB,zB,zB,zB,zB,zB,zB,zB,zB,zB,zB,zB,zB,zB,zB,zB,zB,zB,zB,zB,zB,zB,zB,zB,zB,zB,zF,zF,zF,zF] rfl rfl (any_of HT_.out (by kernel_rfl)) (fun _ _ _ h => h) (Or.inl ⟨by rfl, ?_⟩) ?_ ?_
                  rotate_left
                  ·
                   intro w'
                   go_simp
                   with_reducible rfl
                  rotate_left
                  ·
                   simp only [Act.put, zS, zT, zU, i64_w, i32_w]
                   rfl
                  refine pure_ (i := 29) (N := some 66) (v := ?_) (a' := ?_) #[zB,zB,zB,zB,zB,zB,zB,zB,zB,zB,zB,zB,zB,zB,zB,zB,zB,zB,zB,zB,zB,zB,zB,zB,zB,zB,zB,zB,zB,zB,zF,zF,zF] rfl rfl (any_of HT_.out (by kernel_rfl)) (fun _ _ _ h => h) (Or.inl ⟨by rfl, ?_⟩) ?_ ?_
                  rotate_left
                  ·
                   intro w'
                   go_simp
                   with_reducible rfl
                  rotate_left
                  ·
                   simp only [Act.put, zS, zT, zU, i64_w, i32_w]
                   rfl
                  refine pure_ (i := 30) (N := some 67) (v := ?_) (a' := ?_) #[zB,zB,zB,zB,zB,zB,zB,zB,zB,zB,zB,zB,zB,zB,zB,zB,zB,zB,zB,zB,zB,zB,zB,zB,zB,zB,zB,zB,zB,zB,zB,zF,zF] rfl rfl (any_of HT_.out (by kernel_rfl)) (fun _ _ _ h => h) (Or.inl ⟨by rfl, ?_⟩) ?_ ?_
                  rotate_left
                  ·
                   intro w'
                   go_simp
                   with_reducible rfl
                  rotate_left
                  ·
                   simp only [Act.put, zS, zT, zU, i64_w, i32_w]
                   rfl
                  refine pure_ (i := 31) (N := some 68) (v := ?_) (a' := ?_) #[zB,zB,zB,zB,zB,zB,zB,zB,zB,zB,zB,zB,zB,zB,zB,zB,zB,zB,zB,zB,zB,zB,zB,zB,zB,zB,zB,zB,zB,zB,zB,zB,zF] rfl rfl (any_of HT_.out (by kernel_rfl)) (fun _ _ _ h => h) (Or.inl ⟨by rfl, ?_⟩) ?_ ?_
                  rotate_left
                  ·
                   intro w'
                   go_simp
                   with_reducible rfl
                  rotate_left
                  ·
                   simp only [Act.put, zS, zT, zU, i64_w, i32_w]
                   rfl
                  refine pure_ (i := 32) (N := some 36) (v := ?_) (a' := ?_) #[zB,zB,zB,zB,zB,zB,zB,zB,zB,zB,zB,zB,zB,zB,zB,zB,zB,zB,zB,zB,zB,zB,zB,zB,zB,zB,zB,zB,zB,zB,zB,zB,zB] rfl rfl (any_of HT_.out (by kernel_rfl)) (fun _ _ _ h => h) (Or.inl ⟨by rfl, ?_⟩) ?_ ?_
                  rotate_left
                  ·
                   intro w'
                   go_simp
                   with_reducible rfl
                  rotate_left
                  ·
                   simp only [Act.put, zS, zT, zU, i64_w, i32_w]
                   rfl
                  refine done_ (done_of HT_.out (by kernel_rfl)) ?_
                  try go_wp2
                  go_roundg kj7
                  case measure => have := HK1.out; have := HJ7.out; omega
                  case rel => exact ⟨(wrap64 (x10_1 + 1)), (by first | rfl | (simp; done) | (simp [*]; done)), H', ⟨by have := HK1.out; have := HJ7.out; omega⟩, ⟨by repeat (first | (with_reducible first | exact HB.out | apply zA | apply zN | apply zD | refine below_set ?_ GE660.out) | exact HB.out)⟩⟩
                ·
                 rw [if_neg c30] at H
                 have c30b0 : (((rd_T80 l0 (ji21)).f0).toList == ((rd_T80 l0 x10_1).f0).toList) = false := beq_eq_false_iff_ne.mpr c30
                 have c30b1 : (((rd_T80 l0 (ji21)).f0).toList != ((rd_T80 l0 x10_1).f0).toList) = true := bne_iff_ne.mpr c30
                 have H' := zK H
                 clear H
                 have hcz40_0 : wc.cell? ⟨gb660, 0, none⟩ = some (.string ((rd_T80 l0 x10_1).f0)) := (blk_cell BK660.out 0).trans rfl
                 have hcz40_1 : wc.cell? ⟨gb660, 1, none⟩ = some (.int .i64 ((rd_T80 l0 x10_1).f1)) := (blk_cell BK660.out 1).trans rfl
                 have hcz40_2 : wc.cell? ⟨gb660, 2, none⟩ = some (.int .i64 ((rd_T80 l0 x10_1).f2)) := (blk_cell BK660.out 2).trans rfl
                 have hcz40_3 : wc.cell? ⟨gb660, 3, none⟩ = some (.string ((rd_T80 l0 x10_1).f3)) := (blk_cell BK660.out 3).trans rfl
                 have hfz40_0 := blk_frozen BK660.out 0
                 have hfz40_1 := blk_frozen BK660.out 1
                 have hfz40_2 := blk_frozen BK660.out 2
                 have hfz40_3 := blk_frozen BK660.out 3
                 try go_wp2_with (first | ((with_reducible refine gate_callee (f := 105) rfl ?_); refine goesL_ (some 34) rfl rfl Tryd.func105 (by kernel_rfl) rfl #[.int .i64 1, .string ((rd_T80 l0 x10_1).f3)] rfl (by (try simp only [List.map_toArray, List.map_cons, List.map_nil]); first | done | rfl | (simp only [List.length_drop, List.length_take]; rfl)) ?_; (with_reducible refine (impl_isIdOf.calls 1 ((rd_T80 l0 x10_1).f3) true _ A18.out).mono ?_); rintro e w41 ⟨rfl, hb⟩; refine ⟨_, rfl, ?_⟩; have n0_ := zK (blk_below (g := gb660) (o := .cells #[.string ((rd_T80 l0 x10_1).f0), .int .i64 ((rd_T80 l0 x10_1).f1), .int .i64 ((rd_T80 l0 x10_1).f2), .string ((rd_T80 l0 x10_1).f3)] 80 (0, 0)) (by (with_reducible repeat (first | refine zM ?_ _ | refine zP ?_ | refine zQ ?_ _)); exact BK660.out) hb); have n1_ := zK (below_step (by repeat (first | (with_reducible first | exact HB.out | apply zA | apply zN | apply zD | refine below_set ?_ GE660.out) | exact HB.out)) hb); clear BK660; clear HB; have BK660 := n0_; have HB := n1_; clear n0_ n1_; (try clear hb); (try clear hb2); (try clear hk); (try clear hi)))
                 have n0_ := zK (zP BK660.out)
                 have n1_ := zK (zD HB.out)
                 clear BK660
                 clear HB
                 have BK660 := n0_
                 have HB := n1_
                 clear n0_ n1_
                 have p665 : 0 ≤ ((ji21) : Int) := zX (by first | (with_reducible assumption) | assumption)
                 have q665 : (ji21) < (l0.length : Int) := zX (by first | (with_reducible assumption) | assumption)
                 obtain ⟨ad665, e665, hx665_0, hx665_1, hx665_2, hx665_3⟩ := at_T80 HR0.out (ji21) p665 q665
                 have hw665_3 := hx665_3
                 have hw665_2 := hx665_2
                 have hw665_1 := hx665_1
                 have hw665_0 := hx665_0
                 obtain rfl : ad659 = ad665 := (by injection e665)
                 replace hx665_0 := (HB.out.cell (zL w _ hx665_0)).trans hx665_0
                 replace hx665_1 := (HB.out.cell (zL w _ hx665_1)).trans hx665_1
                 replace hx665_2 := (HB.out.cell (zL w _ hx665_2)).trans hx665_2
                 replace hx665_3 := (HB.out.cell (zL w _ hx665_3)).trans hx665_3
                 replace p665 := eq_true p665
                 replace q665 := eq_true q665
                 have p667 : 0 ≤ ((ji21) : Int) := zX (by first | (with_reducible assumption) | assumption)
                 have q667 : (ji21) < (l0.length : Int) := zX (by first | (with_reducible assumption) | assumption)
                 obtain ⟨ad667, e667, hx667_0, hx667_1, hx667_2, hx667_3⟩ := at_T80 HR0.out (ji21) p667 q667
                 have hw667_3 := hx667_3
                 have hw667_2 := hx667_2
                 have hw667_1 := hx667_1
                 have hw667_0 := hx667_0
                 obtain rfl : ad659 = ad667 := (by injection e667)
                 replace hx667_0 := (HB.out.cell (zL w _ hx667_0)).trans hx667_0
                 replace hx667_1 := (HB.out.cell (zL w _ hx667_1)).trans hx667_1
                 replace hx667_2 := (HB.out.cell (zL w _ hx667_2)).trans hx667_2
                 replace hx667_3 := (HB.out.cell (zL w _ hx667_3)).trans hx667_3
                 replace p667 := eq_true p667
                 replace q667 := eq_true q667
                 refine start_ (n := 33) (S := fun w' => w'.cell? ⟨gb660, 0, none⟩ = some (.string ((rd_T80 l0 x10_1).f0)) ∧ w'.cell? ⟨gb660, 1, none⟩ = some (.int .i64 ((rd_T80 l0 x10_1).f1)) ∧ w'.cell? ⟨gb660, 2, none⟩ = some (.int .i64 ((rd_T80 l0 x10_1).f2)) ∧ w'.cell? ⟨gb660, 3, none⟩ = some (.string ((rd_T80 l0 x10_1).f3)) ∧ w'.cell? (ad659.add (((ji21)).toNat * 4)) = some (.string ((rd_T80 l0 (ji21)).f0)) ∧ w'.cell? ⟨(ad659.add (((ji21)).toNat * 4)).block, (ad659.add (((ji21)).toNat * 4)).off + 1, none⟩ = some (.int .i64 ((rd_T80 l0 (ji21)).f1)) ∧ w'.cell? ⟨(ad659.add (((ji21)).toNat * 4)).block, (ad659.add (((ji21)).toNat * 4)).off + 2, none⟩ = some (.int .i64 ((rd_T80 l0 (ji21)).f2)) ∧ w'.cell? ⟨(ad659.add (((ji21)).toNat * 4)).block, (ad659.add (((ji21)).toNat * 4)).off + 3, none⟩ = some (.string ((rd_T80 l0 (ji21)).f3)) ∧ w'.cell? (ad659.add (((ji21)).toNat * 4)) = some (.string ((rd_T80 l0 (ji21)).f0)) ∧ w'.cell? ⟨(ad659.add (((ji21)).toNat * 4)).block, (ad659.add (((ji21)).toNat * 4)).off + 1, none⟩ = some (.int .i64 ((rd_T80 l0 (ji21)).f1)) ∧ w'.cell? ⟨(ad659.add (((ji21)).toNat * 4)).block, (ad659.add (((ji21)).toNat * 4)).off + 2, none⟩ = some (.int .i64 ((rd_T80 l0 (ji21)).f2)) ∧ w'.cell? ⟨(ad659.add (((ji21)).toNat * 4)).block, (ad659.add (((ji21)).toNat * 4)).off + 3, none⟩ = some (.string ((rd_T80 l0 (ji21)).f3))) (ds := []) #[zF,zF,zF,zF,zF,zF,zF,zF,zF,zF,zF,zF,zF,zF,zF,zF,zF,zF,zF,zF,zF,zF,zF,zF,zF,zF,zF,zF,zF,zF,zF,zF,zF] (by kernel_rfl) rfl rfl ⟨(blk_cell BK660.out 0).trans rfl, (blk_cell BK660.out 1).trans rfl, (blk_cell BK660.out 2).trans rfl, (blk_cell BK660.out 3).trans rfl, ((HB.out.cell (zL w _ hw665_0)).trans hw665_0), ((HB.out.cell (zL w _ hw665_1)).trans hw665_1), ((HB.out.cell (zL w _ hw665_2)).trans hw665_2), ((HB.out.cell (zL w _ hw665_3)).trans hw665_3), ((HB.out.cell (zL w _ hw667_0)).trans hw667_0), ((HB.out.cell (zL w _ hw667_1)).trans hw667_1), ((HB.out.cell (zL w _ hw667_2)).trans hw667_2), ((HB.out.cell (zL w _ hw667_3)).trans hw667_3)⟩ (fun hHeld => ?_); refine with_tabW impl_IndexFault.tab12 impl_IndexFault.bits12 (fun HT_ HW_ => ?_)
                 generalize w41.drew = w42 at BK660 HB hx665_0 hx665_1 hx665_2 hx665_3 hx667_0 hx667_1 hx667_2 hx667_3 hHeld ⊢
                 refine pure_ (i := 0) (N := some 37) (v := ?_) (a' := ?_) #[zB,zF,zF,zF,zF,zF,zF,zF,zF,zF,zF,zF,zF,zF,zF,zF,zF,zF,zF,zF,zF,zF,zF,zF,zF,zF,zF,zF,zF,zF,zF,zF,zF] rfl rfl (any_of HT_.out (by kernel_rfl)) (fun _ _ _ h => h) (Or.inl ⟨by rfl, ?_⟩) ?_ ?_
                 rotate_left
                 ·
                  intro w'
                  go_simp
                  with_reducible rfl
                 rotate_left
                 ·
                  simp only [Act.put, zS, zT, zU, i64_w, i32_w]
                  rfl
                 refine pure_ (i := 1) (N := some 38) (v := ?_) (a' := ?_) #[zB,zB,zF,zF,zF,zF,zF,zF,zF,zF,zF,zF,zF,zF,zF,zF,zF,zF,zF,zF,zF,zF,zF,zF,zF,zF,zF,zF,zF,zF,zF,zF,zF] rfl rfl (any_of HT_.out (by kernel_rfl)) (fun _ _ _ h => h) (Or.inl ⟨by rfl, ?_⟩) ?_ ?_
                 rotate_left
                 ·
                  intro w'
                  go_simp
                  with_reducible rfl
                 rotate_left
                 ·
                  simp only [Act.put, zS, zT, zU, i64_w, i32_w]
                  rfl
                 refine pure_ (i := 2) (N := some 39) (v := ?_) (a' := ?_) #[zB,zB,zB,zF,zF,zF,zF,zF,zF,zF,zF,zF,zF,zF,zF,zF,zF,zF,zF,zF,zF,zF,zF,zF,zF,zF,zF,zF,zF,zF,zF,zF,zF] rfl rfl (any_of HT_.out (by kernel_rfl)) (fun _ _ _ h => h) (Or.inl ⟨by rfl, ?_⟩) ?_ ?_
                 rotate_left
                 ·
                  intro w'
                  go_simp
                  with_reducible rfl
                 rotate_left
                 ·
                  simp only [Act.put, zS, zT, zU, i64_w, i32_w]
                  rfl
                 refine pure_ (i := 3) (N := some 40) (v := ?_) (a' := ?_) #[zB,zB,zB,zB,zF,zF,zF,zF,zF,zF,zF,zF,zF,zF,zF,zF,zF,zF,zF,zF,zF,zF,zF,zF,zF,zF,zF,zF,zF,zF,zF,zF,zF] rfl rfl (any_of HT_.out (by kernel_rfl)) (fun _ _ _ h => h) (Or.inl ⟨by rfl, ?_⟩) ?_ ?_
                 rotate_left
                 ·
                  intro w'
                  go_simp
                  with_reducible rfl
                 rotate_left
                 ·
                  simp only [Act.put, zS, zT, zU, i64_w, i32_w]
                  rfl
                 refine pure_ (i := 4) (N := some 41) (v := ?_) (a' := ?_) #[zB,zB,zB,zB,zB,zF,zF,zF,zF,zF,zF,zF,zF,zF,zF,zF,zF,zF,zF,zF,zF,zF,zF,zF,zF,zF,zF,zF,zF,zF,zF,zF,zF] rfl rfl (any_of HT_.out (by kernel_rfl)) (fun _ _ _ h => h) (Or.inl ⟨by rfl, ?_⟩) ?_ ?_
                 rotate_left
                 ·
                  intro w'
                  go_simp
                  with_reducible rfl
                 rotate_left
                 ·
                  simp only [Act.put, zS, zT, zU, i64_w, i32_w]
                  rfl
                 refine pure_ (i := 5) (N := some 42) (v := ?_) (a' := ?_) #[zB,zB,zB,zB,zB,zB,zF,zF,zF,zF,zF,zF,zF,zF,zF,zF,zF,zF,zF,zF,zF,zF,zF,zF,zF,zF,zF,zF,zF,zF,zF,zF,zF] rfl rfl (any_of HT_.out (by kernel_rfl)) (fun _ _ _ h => h) (Or.inl ⟨by rfl, ?_⟩) ?_ ?_
                 rotate_left
                 ·
                  intro w'
                  go_simp
                  with_reducible rfl
                 rotate_left
                 ·
                  simp only [Act.put, zS, zT, zU, i64_w, i32_w]
                  rfl
                 refine pure_ (i := 6) (N := some 43) (v := ?_) (a' := ?_) #[zB,zB,zB,zB,zB,zB,zB,zF,zF,zF,zF,zF,zF,zF,zF,zF,zF,zF,zF,zF,zF,zF,zF,zF,zF,zF,zF,zF,zF,zF,zF,zF,zF] rfl rfl (any_of HT_.out (by kernel_rfl)) (fun _ _ _ h => h) (Or.inl ⟨by rfl, ?_⟩) ?_ ?_
                 rotate_left
                 ·
                  intro w'
                  go_simp
                  with_reducible rfl
                 rotate_left
                 ·
                  simp only [Act.put, zS, zT, zU, i64_w, i32_w]
                  rfl
                 refine take_ (i := 7) (N := some 44) (v := ?_) (a' := ?_) #[zB,zB,zB,zB,zB,zB,zB,zB,zF,zF,zF,zF,zF,zF,zF,zF,zF,zF,zF,zF,zF,zF,zF,zF,zF,zF,zF,zF,zF,zF,zF,zF,zF] rfl rfl (take_ofW HT_.out HW_.out (by kernel_rfl)) (fun _ _ _ h => h) (Or.inl ⟨by rfl, ?_⟩) hHeld ?_ ?_
                 rotate_left
                 ·
                  rintro w' ⟨s0, s1, s2, s3, s4, s5, s6, s7, s8, s9, s10, s11⟩
                  go_simp
                  with_reducible rfl
                 rotate_left
                 ·
                  simp only [Act.put, zS, zT, zU, i64_w, i32_w]
                  rfl
                 refine take_ (i := 8) (N := some 45) (v := ?_) (a' := ?_) #[zB,zB,zB,zB,zB,zB,zB,zB,zB,zF,zF,zF,zF,zF,zF,zF,zF,zF,zF,zF,zF,zF,zF,zF,zF,zF,zF,zF,zF,zF,zF,zF,zF] rfl rfl (take_ofW HT_.out HW_.out (by kernel_rfl)) (fun _ _ _ h => h) (Or.inl ⟨by rfl, ?_⟩) hHeld ?_ ?_
                 rotate_left
                 ·
                  rintro w' ⟨s0, s1, s2, s3, s4, s5, s6, s7, s8, s9, s10, s11⟩
                  go_simp
                  with_reducible rfl
                 rotate_left
                 ·
                  simp only [Act.put, zS, zT, zU, i64_w, i32_w]
                  rfl
                 refine one_ (i := 9) (N := some 46) #[zB,zB,zB,zB,zB,zB,zB,zB,zB,zB,zF,zF,zF,zF,zF,zF,zF,zF,zF,zF,zF,zF,zF,zF,zF,zF,zF,zF,zF,zF,zF,zF,zF] rfl rfl (one_of HT_.out (by kernel_rfl)) (by decide) (fun K hK => ?_)
                 refine goes_ Tryd.func106 (by kernel_rfl) rfl #[.agg #[.string ((rd_T80 l0 (ji21)).f0), .int .i64 ((rd_T80 l0 (ji21)).f1), .int .i64 ((rd_T80 l0 (ji21)).f2), .string ((rd_T80 l0 (ji21)).f3)], .agg #[.string ((rd_T80 l0 x10_1).f0), .int .i64 ((rd_T80 l0 x10_1).f1), .int .i64 ((rd_T80 l0 x10_1).f2), .string ((rd_T80 l0 x10_1).f3)]] (by rfl) rfl rfl (by (try simp only [List.map_toArray, List.map_cons, List.map_nil]); first | done | (simp only [hji21]; rfl) | rfl | (simp only [List.length_drop, List.length_take]; rfl)) ?_
                 with_reducible refine (impl_compareEntries.calls kj7 ((rd_T80 l0 (ji21)).f0) ((rd_T80 l0 (ji21)).f1) ((rd_T80 l0 (ji21)).f2) ((rd_T80 l0 (ji21)).f3) ((rd_T80 l0 x10_1).f0) ((rd_T80 l0 x10_1).f1) ((rd_T80 l0 x10_1).f2) ((rd_T80 l0 x10_1).f3) t666 _ A24.out).mono ?_
                 rintro e w43 ⟨rfl, hb⟩
                 refine ⟨_, rfl, ?_⟩
                 have n0_ := zK (blk_below (g := gb660) (o := .cells #[.string ((rd_T80 l0 x10_1).f0), .int .i64 ((rd_T80 l0 x10_1).f1), .int .i64 ((rd_T80 l0 x10_1).f2), .string ((rd_T80 l0 x10_1).f3)] 80 (0, 0)) (by (with_reducible repeat (first | refine zM ?_ _ | refine zP ?_ | refine zQ ?_ _)); exact BK660.out) hb)
                 have n1_ := zK (below_step (by repeat (first | (with_reducible first | exact HB.out | apply zA | apply zN | apply zD | refine below_set ?_ GE660.out) | exact HB.out)) hb)
                 clear BK660
                 clear HB
                 have BK660 := n0_
                 have HB := n1_
                 clear n0_ n1_
                 (try clear hb)
                 (try clear hb2)
                 (try clear hk)
                 (try clear hi)
                 refine hK.out _ _ ⟨(blk_cell BK660.out 0).trans rfl, (blk_cell BK660.out 1).trans rfl, (blk_cell BK660.out 2).trans rfl, (blk_cell BK660.out 3).trans rfl, ((HB.out.cell (zL w _ hw665_0)).trans hw665_0), ((HB.out.cell (zL w _ hw665_1)).trans hw665_1), ((HB.out.cell (zL w _ hw665_2)).trans hw665_2), ((HB.out.cell (zL w _ hw665_3)).trans hw665_3), ((HB.out.cell (zL w _ hw667_0)).trans hw667_0), ((HB.out.cell (zL w _ hw667_1)).trans hw667_1), ((HB.out.cell (zL w _ hw667_2)).trans hw667_2), ((HB.out.cell (zL w _ hw667_3)).trans hw667_3)⟩ (fun hHeld => ?_)
                 clear hK K
                 refine norm_ (a' := ?_) ?_ ?_
                 rotate_left
                 ·
                  show Act.put _ (some 46) _ = _
                  simp only [Act.put, zS, zT, zU, i64_w, i32_w]
                  rfl
                 refine pure_ (i := 10) (N := some 47) (v := ?_) (a' := ?_) #[zB,zB,zB,zB,zB,zB,zB,zB,zB,zB,zB,zF,zF,zF,zF,zF,zF,zF,zF,zF,zF,zF,zF,zF,zF,zF,zF,zF,zF,zF,zF,zF,zF] rfl rfl (any_of HT_.out (by kernel_rfl)) (fun _ _ _ h => h) (Or.inl ⟨by rfl, ?_⟩) ?_ ?_
                 rotate_left
                 ·
                  intro w'
                  go_simp
                  with_reducible rfl
                 rotate_left
                 ·
                  simp only [Act.put, zS, zT, zU, i64_w, i32_w]
                  rfl
                 refine pure_ (i := 11) (N := some 48) (v := ?_) (a' := ?_) #[zB,zB,zB,zB,zB,zB,zB,zB,zB,zB,zB,zB,zF,zF,zF,zF,zF,zF,zF,zF,zF,zF,zF,zF,zF,zF,zF,zF,zF,zF,zF,zF,zF] rfl rfl (any_of HT_.out (by kernel_rfl)) (fun _ _ _ h => h) (Or.inl ⟨by rfl, ?_⟩) ?_ ?_
                 rotate_left
                 ·
                  intro w'
                  go_simp
                  with_reducible rfl
                 rotate_left
                 ·
                  simp only [Act.put, zS, zT, zU, i64_w, i32_w]
                  rfl
                 refine pure_ (i := 12) (N := some 49) (v := ?_) (a' := ?_) #[zB,zB,zB,zB,zB,zB,zB,zB,zB,zB,zB,zB,zB,zF,zF,zF,zF,zF,zF,zF,zF,zF,zF,zF,zF,zF,zF,zF,zF,zF,zF,zF,zF] rfl rfl (any_of HT_.out (by kernel_rfl)) (fun _ _ _ h => h) (Or.inl ⟨by rfl, ?_⟩) ?_ ?_
                 rotate_left
                 ·
                  intro w'
                  go_simp
                  with_reducible rfl
                 rotate_left
                 ·
                  simp only [Act.put, zS, zT, zU, i64_w, i32_w]
                  rfl
                 refine pure_ (i := 13) (N := some 50) (v := ?_) (a' := ?_) #[zB,zB,zB,zB,zB,zB,zB,zB,zB,zB,zB,zB,zB,zB,zF,zF,zF,zF,zF,zF,zF,zF,zF,zF,zF,zF,zF,zF,zF,zF,zF,zF,zF] rfl rfl (any_of HT_.out (by kernel_rfl)) (fun _ _ _ h => h) (Or.inl ⟨by rfl, ?_⟩) ?_ ?_
                 rotate_left
                 ·
                  intro w'
                  go_simp
                  with_reducible rfl
                 rotate_left
                 ·
                  simp only [Act.put, zS, zT, zU, i64_w, i32_w]
                  rfl
                 refine pure_ (i := 14) (N := some 51) (v := ?_) (a' := ?_) #[zB,zB,zB,zB,zB,zB,zB,zB,zB,zB,zB,zB,zB,zB,zB,zF,zF,zF,zF,zF,zF,zF,zF,zF,zF,zF,zF,zF,zF,zF,zF,zF,zF] rfl rfl (any_of HT_.out (by kernel_rfl)) (fun _ _ _ h => h) (Or.inl ⟨by rfl, ?_⟩) ?_ ?_
                 rotate_left
                 ·
                  intro w'
                  go_simp
                  with_reducible rfl
                 rotate_left
                 ·
                  simp only [Act.put, zS, zT, zU, i64_w, i32_w]
                  rfl
                 refine pure_ (i := 15) (N := some 52) (v := ?_) (a' := ?_) #[zB,zB,zB,zB,zB,zB,zB,zB,zB,zB,zB,zB,zB,zB,zB,zB,zF,zF,zF,zF,zF,zF,zF,zF,zF,zF,zF,zF,zF,zF,zF,zF,zF] rfl rfl (any_of HT_.out (by kernel_rfl)) (fun _ _ _ h => h) (Or.inl ⟨by rfl, ?_⟩) ?_ ?_
                 rotate_left
                 ·
                  intro w'
                  go_simp
                  with_reducible rfl
                 rotate_left
                 ·
                  simp only [Act.put, zS, zT, zU, i64_w, i32_w]
                  rfl
                 refine pure_ (i := 16) (N := some 53) (v := ?_) (a' := ?_) #[zB,zB,zB,zB,zB,zB,zB,zB,zB,zB,zB,zB,zB,zB,zB,zB,zB,zF,zF,zF,zF,zF,zF,zF,zF,zF,zF,zF,zF,zF,zF,zF,zF] rfl rfl (any_of HT_.out (by kernel_rfl)) (fun _ _ _ h => h) (Or.inl ⟨by rfl, ?_⟩) ?_ ?_
                 rotate_left
                 ·
                  intro w'
                  go_simp
                  with_reducible rfl
                 rotate_left
                 ·
                  simp only [Act.put, zS, zT, zU, i64_w, i32_w]
                  rfl
                 refine pure_ (i := 18) (N := some 55) (v := ?_) (a' := ?_) #[zB,zB,zB,zB,zB,zB,zB,zB,zB,zB,zB,zB,zB,zB,zB,zB,zB,zF,zB,zF,zF,zF,zF,zF,zF,zF,zF,zF,zF,zF,zF,zF,zF] rfl rfl (any_of HT_.out (by kernel_rfl)) (fun _ _ _ h => h) (Or.inl ⟨by rfl, ?_⟩) ?_ ?_
                 rotate_left
                 ·
                  intro w'
                  go_simp
                  with_reducible rfl
                 rotate_left
                 ·
                  simp only [Act.put, zS, zT, zU, i64_w, i32_w]
                  rfl
                 refine take_ (i := 17) (N := some 54) (v := ?_) (a' := ?_) #[zB,zB,zB,zB,zB,zB,zB,zB,zB,zB,zB,zB,zB,zB,zB,zB,zB,zB,zB,zF,zF,zF,zF,zF,zF,zF,zF,zF,zF,zF,zF,zF,zF] rfl rfl (take_ofW HT_.out HW_.out (by kernel_rfl)) (fun _ _ _ h => h) (Or.inl ⟨by rfl, ?_⟩) hHeld ?_ ?_
                 rotate_left
                 ·
                  rintro w' ⟨s0, s1, s2, s3, s4, s5, s6, s7, s8, s9, s10, s11⟩
                  go_simp
                  with_reducible rfl
                 rotate_left
                 ·
                  simp only [Act.put, zS, zT, zU, i64_w, i32_w]
                  rfl
                 refine take_ (i := 19) (N := some 56) (v := ?_) (a' := ?_) #[zB,zB,zB,zB,zB,zB,zB,zB,zB,zB,zB,zB,zB,zB,zB,zB,zB,zB,zB,zB,zF,zF,zF,zF,zF,zF,zF,zF,zF,zF,zF,zF,zF] rfl rfl (take_ofW HT_.out HW_.out (by kernel_rfl)) (fun _ _ _ h => h) (Or.inl ⟨by rfl, ?_⟩) hHeld ?_ ?_
                 rotate_left
                 ·
                  rintro w' ⟨s0, s1, s2, s3, s4, s5, s6, s7, s8, s9, s10, s11⟩
                  go_simp
                  with_reducible rfl
                 rotate_left
                 ·
                  simp only [Act.put, zS, zT, zU, i64_w, i32_w]
                  rfl
                 refine pure_ (i := 20) (N := some 57) (v := ?_) (a' := ?_) #[zB,zB,zB,zB,zB,zB,zB,zB,zB,zB,zB,zB,zB,zB,zB,zB,zB,zB,zB,zB,zB,zF,zF,zF,zF,zF,zF,zF,zF,zF,zF,zF,zF] rfl rfl (any_of HT_.out (by kernel_rfl)) (fun _ _ _ h => h) (Or.inl ⟨by rfl, ?_⟩) ?_ ?_
                 rotate_left
                 ·
                  intro w'
                  go_simp
                  with_reducible rfl
                 rotate_left
                 ·
                  simp only [Act.put, zS, zT, zU, i64_w, i32_w]
                  rfl
                 refine pure_ (i := 21) (N := some 58) (v := ?_) (a' := ?_) #[zB,zB,zB,zB,zB,zB,zB,zB,zB,zB,zB,zB,zB,zB,zB,zB,zB,zB,zB,zB,zB,zB,zF,zF,zF,zF,zF,zF,zF,zF,zF,zF,zF] rfl rfl (any_of HT_.out (by kernel_rfl)) (fun _ _ _ h => h) (Or.inl ⟨by rfl, ?_⟩) ?_ ?_
                 rotate_left
                 ·
                  intro w'
                  go_simp
                  with_reducible rfl
                 rotate_left
                 ·
                  simp only [Act.put, zS, zT, zU, i64_w, i32_w]
                  rfl
                 refine pure_ (i := 22) (N := some 59) (v := undef) (a' := ?_) #[zB,zB,zB,zB,zB,zB,zB,zB,zB,zB,zB,zB,zB,zB,zB,zB,zB,zB,zB,zB,zB,zB,zB,zF,zF,zF,zF,zF,zF,zF,zF,zF,zF] rfl rfl (any_of HT_.out (by kernel_rfl)) (fun _ _ _ h => h) (Or.inr ⟨by rfl, rfl⟩) ?_ ?_
                 rotate_left
                 ·
                  simp only [Act.put, zS, zT, zU, i64_w, i32_w]
                  rfl
                 refine pure_ (i := 23) (N := some 60) (v := undef) (a' := ?_) #[zB,zB,zB,zB,zB,zB,zB,zB,zB,zB,zB,zB,zB,zB,zB,zB,zB,zB,zB,zB,zB,zB,zB,zB,zF,zF,zF,zF,zF,zF,zF,zF,zF] rfl rfl (any_of HT_.out (by kernel_rfl)) (fun _ _ _ h => h) (Or.inr ⟨by rfl, rfl⟩) ?_ ?_
                 rotate_left
                 ·
                  simp only [Act.put, zS, zT, zU, i64_w, i32_w]
                  rfl
                 refine pure_ (i := 24) (N := some 61) (v := undef) (a' := ?_) #[zB,zB,zB,zB,zB,zB,zB,zB,zB,zB,zB,zB,zB,zB,zB,zB,zB,zB,zB,zB,zB,zB,zB,zB,zB,zF,zF,zF,zF,zF,zF,zF,zF] rfl rfl (any_of HT_.out (by kernel_rfl)) (fun _ _ _ h => h) (Or.inr ⟨by rfl, rfl⟩) ?_ ?_
                 rotate_left
                 ·
                  simp only [Act.put, zS, zT, zU, i64_w, i32_w]
                  rfl
                 refine pure_ (i := 25) (N := some 62) (v := undef) (a' := ?_) #[zB,zB,zB,zB,zB,zB,zB,zB,zB,zB,zB,zB,zB,zB,zB,zB,zB,zB,zB,zB,zB,zB,zB,zB,zB,zB,zF,zF,zF,zF,zF,zF,zF] rfl rfl (any_of HT_.out (by kernel_rfl)) (fun _ _ _ h => h) (Or.inr ⟨by rfl, rfl⟩) ?_ ?_
                 rotate_left
                 ·
                  simp only [Act.put, zS, zT, zU, i64_w, i32_w]
                  rfl
                 refine pure_ (i := 26) (N := some 63) (v := undef) (a' := ?_) #[zB,zB,zB,zB,zB,zB,zB,zB,zB,zB,zB,zB,zB,zB,zB,zB,zB,zB,zB,zB,zB,zB,zB,zB,zB,zB,zB,zF,zF,zF,zF,zF,zF] rfl rfl (any_of HT_.out (by kernel_rfl)) (fun _ _ _ h => h) (Or.inr ⟨by rfl, rfl⟩) ?_ ?_
                 rotate_left
                 ·
                  simp only [Act.put, zS, zT, zU, i64_w, i32_w]
                  rfl
                 refine pure_ (i := 27) (N := some 64) (v := undef) (a' := ?_) #[zB,zB,zB,zB,zB,zB,zB,zB,zB,zB,zB,zB,zB,zB,zB,zB,zB,zB,zB,zB,zB,zB,zB,zB,zB,zB,zB,zB,zF,zF,zF,zF,zF] rfl rfl (any_of HT_.out (by kernel_rfl)) (fun _ _ _ h => h) (Or.inr ⟨by rfl, rfl⟩) ?_ ?_
                 rotate_left
                 ·
                  simp only [Act.put, zS, zT, zU, i64_w, i32_w]
                  rfl
                 refine pure_ (i := 28) (N := some 65) (v := undef) (a' := ?_) #[zB,zB,zB,zB,zB,zB,zB,zB,zB,zB,zB,zB,zB,zB,zB,zB,zB,zB,zB,zB,zB,zB,zB,zB,zB,zB,zB,zB,zB,zF,zF,zF,zF] rfl rfl (any_of HT_.out (by kernel_rfl)) (fun _ _ _ h => h) (Or.inr ⟨by rfl, rfl⟩) ?_ ?_
                 rotate_left
                 ·
                  simp only [Act.put, zS, zT, zU, i64_w, i32_w]
                  rfl
                 refine pure_ (i := 29) (N := some 66) (v := ?_) (a' := ?_) #[zB,zB,zB,zB,zB,zB,zB,zB,zB,zB,zB,zB,zB,zB,zB,zB,zB,zB,zB,zB,zB,zB,zB,zB,zB,zB,zB,zB,zB,zB,zF,zF,zF] rfl rfl (any_of HT_.out (by kernel_rfl)) (fun _ _ _ h => h) (Or.inl ⟨by rfl, ?_⟩) ?_ ?_
                 rotate_left
                 ·
                  intro w'
                  go_simp
                  with_reducible rfl
                 rotate_left
                 ·
                  simp only [Act.put, zS, zT, zU, i64_w, i32_w]
                  rfl
                 refine pure_ (i := 30) (N := some 67) (v := ?_) (a' := ?_) #[zB,zB,zB,zB,zB,zB,zB,zB,zB,zB,zB,zB,zB,zB,zB,zB,zB,zB,zB,zB,zB,zB,zB,zB,zB,zB,zB,zB,zB,zB,zB,zF,zF] rfl rfl (any_of HT_.out (by kernel_rfl)) (fun _ _ _ h => h) (Or.inl ⟨by rfl, ?_⟩) ?_ ?_
                 rotate_left
                 ·
                  intro w'
                  go_simp
                  with_reducible rfl
                 rotate_left
                 ·
                  simp only [Act.put, zS, zT, zU, i64_w, i32_w]
                  rfl
                 refine pure_ (i := 31) (N := some 68) (v := ?_) (a' := ?_) #[zB,zB,zB,zB,zB,zB,zB,zB,zB,zB,zB,zB,zB,zB,zB,zB,zB,zB,zB,zB,zB,zB,zB,zB,zB,zB,zB,zB,zB,zB,zB,zB,zF] rfl rfl (any_of HT_.out (by kernel_rfl)) (fun _ _ _ h => h) (Or.inl ⟨by rfl, ?_⟩) ?_ ?_
                 rotate_left
                 ·
                  intro w'
                  go_simp
                  with_reducible rfl
                 rotate_left
                 ·
                  simp only [Act.put, zS, zT, zU, i64_w, i32_w]
                  rfl
                 refine pure_ (i := 32) (N := some 36) (v := ?_) (a' := ?_) #[zB,zB,zB,zB,zB,zB,zB,zB,zB,zB,zB,zB,zB,zB,zB,zB,zB,zB,zB,zB,zB,zB,zB,zB,zB,zB,zB,zB,zB,zB,zB,zB,zB] rfl rfl (any_of HT_.out (by kernel_rfl)) (fun _ _ _ h => h) (Or.inl ⟨by rfl, ?_⟩) ?_ ?_
                 rotate_left
                 ·
                  intro w'
                  go_simp
                  with_reducible rfl
                 rotate_left
                 ·
                  simp only [Act.put, zS, zT, zU, i64_w, i32_w]
                  rfl
                 refine done_ (done_of HT_.out (by kernel_rfl)) ?_
                 try go_wp2
                 go_roundg kj7
                 case measure => have := HK1.out; have := HJ7.out; omega
                 case rel => exact ⟨(wrap64 (x10_1 + 1)), (by first | rfl | (simp; done) | (simp [*]; done)), H', ⟨by have := HK1.out; have := HJ7.out; omega⟩, ⟨by repeat (first | (with_reducible first | exact HB.out | apply zA | apply zN | apply zD | refine below_set ?_ GE660.out) | exact HB.out)⟩⟩
              ·
               rw [if_neg c23] at H
               exact absurd H (by simp)
             ·
              rw [if_neg c22] at H
              exact absurd H (by simp)
            ·
             rw [if_neg c20] at H
             have c20b0 : decide (0 < x10_1) = false := decide_eq_false c20
             clear c20
             have H' := zK H
             clear H
             have hcz44_0 : wc.cell? ⟨gb660, 0, none⟩ = some (.string ((rd_T80 l0 x10_1).f0)) := (blk_cell BK660.out 0).trans rfl
             have hcz44_1 : wc.cell? ⟨gb660, 1, none⟩ = some (.int .i64 ((rd_T80 l0 x10_1).f1)) := (blk_cell BK660.out 1).trans rfl
             have hcz44_2 : wc.cell? ⟨gb660, 2, none⟩ = some (.int .i64 ((rd_T80 l0 x10_1).f2)) := (blk_cell BK660.out 2).trans rfl
             have hcz44_3 : wc.cell? ⟨gb660, 3, none⟩ = some (.string ((rd_T80 l0 x10_1).f3)) := (blk_cell BK660.out 3).trans rfl
             have hfz44_0 := blk_frozen BK660.out 0
             have hfz44_1 := blk_frozen BK660.out 1
             have hfz44_2 := blk_frozen BK660.out 2
             have hfz44_3 := blk_frozen BK660.out 3
             try go_wp2_with (first | ((with_reducible refine gate_callee (f := 105) rfl ?_); refine goesL_ (some 34) rfl rfl Tryd.func105 (by kernel_rfl) rfl #[.int .i64 1, .string ((rd_T80 l0 x10_1).f3)] rfl (by (try simp only [List.map_toArray, List.map_cons, List.map_nil]); first | done | rfl | (simp only [List.length_drop, List.length_take]; rfl)) ?_; (with_reducible refine (impl_isIdOf.calls 1 ((rd_T80 l0 x10_1).f3) true _ A18.out).mono ?_); rintro e w45 ⟨rfl, hb⟩; refine ⟨_, rfl, ?_⟩; have n0_ := zK (blk_below (g := gb660) (o := .cells #[.string ((rd_T80 l0 x10_1).f0), .int .i64 ((rd_T80 l0 x10_1).f1), .int .i64 ((rd_T80 l0 x10_1).f2), .string ((rd_T80 l0 x10_1).f3)] 80 (0, 0)) (by (with_reducible repeat (first | refine zM ?_ _ | refine zP ?_ | refine zQ ?_ _)); exact BK660.out) hb); have n1_ := zK (below_step (by repeat (first | (with_reducible first | exact HB.out | apply zA | apply zN | apply zD | refine below_set ?_ GE660.out) | exact HB.out)) hb); clear BK660; clear HB; have BK660 := n0_; have HB := n1_; clear n0_ n1_; (try clear hb); (try clear hb2); (try clear hk); (try clear hi)))
             have n0_ := zK (zP BK660.out)
             have n1_ := zK (zD HB.out)
             clear BK660
             clear HB
             have BK660 := n0_
             have HB := n1_
             clear n0_ n1_
             refine start_ (n := 33) (S := fun w' => True) (ds := []) #[zF,zF,zF,zF,zF,zF,zF,zF,zF,zF,zF,zF,zF,zF,zF,zF,zF,zF,zF,zF,zF,zF,zF,zF,zF,zF,zF,zF,zF,zF,zF,zF,zF] (by kernel_rfl) rfl rfl trivial (fun hHeld => ?_); refine with_tabW impl_IndexFault.tab12 impl_IndexFault.bits12 (fun HT_ HW_ => ?_)
             generalize w45.drew = w46 at BK660 HB hHeld ⊢
             refine pure_ (i := 0) (N := some 37) (v := ?_) (a' := ?_) #[zB,zF,zF,zF,zF,zF,zF,zF,zF,zF,zF,zF,zF,zF,zF,zF,zF,zF,zF,zF,zF,zF,zF,zF,zF,zF,zF,zF,zF,zF,zF,zF,zF] rfl rfl (any_of HT_.out (by kernel_rfl)) (fun _ _ _ h => h) (Or.inl ⟨by rfl, ?_⟩) ?_ ?_
             rotate_left
             ·
              intro w'
              go_simp
              with_reducible rfl
             rotate_left
             ·
              simp only [Act.put, zS, zT, zU, i64_w, i32_w]
              rfl
             refine pure_ (i := 1) (N := some 38) (v := ?_) (a' := ?_) #[zB,zB,zF,zF,zF,zF,zF,zF,zF,zF,zF,zF,zF,zF,zF,zF,zF,zF,zF,zF,zF,zF,zF,zF,zF,zF,zF,zF,zF,zF,zF,zF,zF] rfl rfl (any_of HT_.out (by kernel_rfl)) (fun _ _ _ h => h) (Or.inl ⟨by rfl, ?_⟩) ?_ ?_
             rotate_left
             ·
              intro w'
              go_simp
              with_reducible rfl
             rotate_left
             ·
              simp only [Act.put, zS, zT, zU, i64_w, i32_w]
              rfl
             refine pure_ (i := 2) (N := some 39) (v := ?_) (a' := ?_) #[zB,zB,zB,zF,zF,zF,zF,zF,zF,zF,zF,zF,zF,zF,zF,zF,zF,zF,zF,zF,zF,zF,zF,zF,zF,zF,zF,zF,zF,zF,zF,zF,zF] rfl rfl (any_of HT_.out (by kernel_rfl)) (fun _ _ _ h => h) (Or.inl ⟨by rfl, ?_⟩) ?_ ?_
             rotate_left
             ·
              intro w'
              go_simp
              with_reducible rfl
             rotate_left
             ·
              simp only [Act.put, zS, zT, zU, i64_w, i32_w]
              rfl
             refine pure_ (i := 3) (N := some 40) (v := undef) (a' := ?_) #[zB,zB,zB,zB,zF,zF,zF,zF,zF,zF,zF,zF,zF,zF,zF,zF,zF,zF,zF,zF,zF,zF,zF,zF,zF,zF,zF,zF,zF,zF,zF,zF,zF] rfl rfl (any_of HT_.out (by kernel_rfl)) (fun _ _ _ h => h) (Or.inr ⟨by rfl, rfl⟩) ?_ ?_
             rotate_left
             ·
              simp only [Act.put, zS, zT, zU, i64_w, i32_w]
              rfl
             refine pure_ (i := 4) (N := some 41) (v := undef) (a' := ?_) #[zB,zB,zB,zB,zB,zF,zF,zF,zF,zF,zF,zF,zF,zF,zF,zF,zF,zF,zF,zF,zF,zF,zF,zF,zF,zF,zF,zF,zF,zF,zF,zF,zF] rfl rfl (any_of HT_.out (by kernel_rfl)) (fun _ _ _ h => h) (Or.inr ⟨by rfl, rfl⟩) ?_ ?_
             rotate_left
             ·
              simp only [Act.put, zS, zT, zU, i64_w, i32_w]
              rfl
             refine pure_ (i := 5) (N := some 42) (v := undef) (a' := ?_) #[zB,zB,zB,zB,zB,zB,zF,zF,zF,zF,zF,zF,zF,zF,zF,zF,zF,zF,zF,zF,zF,zF,zF,zF,zF,zF,zF,zF,zF,zF,zF,zF,zF] rfl rfl (any_of HT_.out (by kernel_rfl)) (fun _ _ _ h => h) (Or.inr ⟨by rfl, rfl⟩) ?_ ?_
             rotate_left
             ·
              simp only [Act.put, zS, zT, zU, i64_w, i32_w]
              rfl
             refine pure_ (i := 6) (N := some 43) (v := undef) (a' := ?_) #[zB,zB,zB,zB,zB,zB,zB,zF,zF,zF,zF,zF,zF,zF,zF,zF,zF,zF,zF,zF,zF,zF,zF,zF,zF,zF,zF,zF,zF,zF,zF,zF,zF] rfl rfl (any_of HT_.out (by kernel_rfl)) (fun _ _ _ h => h) (Or.inr ⟨by rfl, rfl⟩) ?_ ?_
             rotate_left
             ·
              simp only [Act.put, zS, zT, zU, i64_w, i32_w]
              rfl
             refine pure_ (i := 7) (N := some 44) (v := undef) (a' := ?_) #[zB,zB,zB,zB,zB,zB,zB,zB,zF,zF,zF,zF,zF,zF,zF,zF,zF,zF,zF,zF,zF,zF,zF,zF,zF,zF,zF,zF,zF,zF,zF,zF,zF] rfl rfl (any_of HT_.out (by kernel_rfl)) (fun _ _ _ h => h) (Or.inr ⟨by rfl, rfl⟩) ?_ ?_
             rotate_left
             ·
              simp only [Act.put, zS, zT, zU, i64_w, i32_w]
              rfl
             refine pure_ (i := 8) (N := some 45) (v := undef) (a' := ?_) #[zB,zB,zB,zB,zB,zB,zB,zB,zB,zF,zF,zF,zF,zF,zF,zF,zF,zF,zF,zF,zF,zF,zF,zF,zF,zF,zF,zF,zF,zF,zF,zF,zF] rfl rfl (any_of HT_.out (by kernel_rfl)) (fun _ _ _ h => h) (Or.inr ⟨by rfl, rfl⟩) ?_ ?_
             rotate_left
             ·
              simp only [Act.put, zS, zT, zU, i64_w, i32_w]
              rfl
             refine pure_ (i := 9) (N := some 46) (v := undef) (a' := ?_) #[zB,zB,zB,zB,zB,zB,zB,zB,zB,zB,zF,zF,zF,zF,zF,zF,zF,zF,zF,zF,zF,zF,zF,zF,zF,zF,zF,zF,zF,zF,zF,zF,zF] rfl rfl (any_of HT_.out (by kernel_rfl)) (fun _ _ _ h => h) (Or.inr ⟨by rfl, rfl⟩) ?_ ?_
             rotate_left
             ·
              simp only [Act.put, zS, zT, zU, i64_w, i32_w]
              rfl
             refine pure_ (i := 10) (N := some 47) (v := undef) (a' := ?_) #[zB,zB,zB,zB,zB,zB,zB,zB,zB,zB,zB,zF,zF,zF,zF,zF,zF,zF,zF,zF,zF,zF,zF,zF,zF,zF,zF,zF,zF,zF,zF,zF,zF] rfl rfl (any_of HT_.out (by kernel_rfl)) (fun _ _ _ h => h) (Or.inr ⟨by rfl, rfl⟩) ?_ ?_
             rotate_left
             ·
              simp only [Act.put, zS, zT, zU, i64_w, i32_w]
              rfl
             refine pure_ (i := 11) (N := some 48) (v := undef) (a' := ?_) #[zB,zB,zB,zB,zB,zB,zB,zB,zB,zB,zB,zB,zF,zF,zF,zF,zF,zF,zF,zF,zF,zF,zF,zF,zF,zF,zF,zF,zF,zF,zF,zF,zF] rfl rfl (any_of HT_.out (by kernel_rfl)) (fun _ _ _ h => h) (Or.inr ⟨by rfl, rfl⟩) ?_ ?_
             rotate_left
             ·
              simp only [Act.put, zS, zT, zU, i64_w, i32_w]
              rfl
             refine pure_ (i := 12) (N := some 49) (v := undef) (a' := ?_) #[zB,zB,zB,zB,zB,zB,zB,zB,zB,zB,zB,zB,zB,zF,zF,zF,zF,zF,zF,zF,zF,zF,zF,zF,zF,zF,zF,zF,zF,zF,zF,zF,zF] rfl rfl (any_of HT_.out (by kernel_rfl)) (fun _ _ _ h => h) (Or.inr ⟨by rfl, rfl⟩) ?_ ?_
             rotate_left
             ·
              simp only [Act.put, zS, zT, zU, i64_w, i32_w]
              rfl
             refine pure_ (i := 13) (N := some 50) (v := undef) (a' := ?_) #[zB,zB,zB,zB,zB,zB,zB,zB,zB,zB,zB,zB,zB,zB,zF,zF,zF,zF,zF,zF,zF,zF,zF,zF,zF,zF,zF,zF,zF,zF,zF,zF,zF] rfl rfl (any_of HT_.out (by kernel_rfl)) (fun _ _ _ h => h) (Or.inr ⟨by rfl, rfl⟩) ?_ ?_
             rotate_left
             ·
              simp only [Act.put, zS, zT, zU, i64_w, i32_w]
              rfl
             refine pure_ (i := 14) (N := some 51) (v := undef) (a' := ?_) #[zB,zB,zB,zB,zB,zB,zB,zB,zB,zB,zB,zB,zB,zB,zB,zF,zF,zF,zF,zF,zF,zF,zF,zF,zF,zF,zF,zF,zF,zF,zF,zF,zF] rfl rfl (any_of HT_.out (by kernel_rfl)) (fun _ _ _ h => h) (Or.inr ⟨by rfl, rfl⟩) ?_ ?_
             rotate_left
             ·
              simp only [Act.put, zS, zT, zU, i64_w, i32_w]
              rfl
             refine pure_ (i := 15) (N := some 52) (v := undef) (a' := ?_) #[zB,zB,zB,zB,zB,zB,zB,zB,zB,zB,zB,zB,zB,zB,zB,zB,zF,zF,zF,zF,zF,zF,zF,zF,zF,zF,zF,zF,zF,zF,zF,zF,zF] rfl rfl (any_of HT_.out (by kernel_rfl)) (fun _ _ _ h => h) (Or.inr ⟨by rfl, rfl⟩) ?_ ?_
             rotate_left
             ·
              simp only [Act.put, zS, zT, zU, i64_w, i32_w]
              rfl
             refine pure_ (i := 16) (N := some 53) (v := undef) (a' := ?_) #[zB,zB,zB,zB,zB,zB,zB,zB,zB,zB,zB,zB,zB,zB,zB,zB,zB,zF,zF,zF,zF,zF,zF,zF,zF,zF,zF,zF,zF,zF,zF,zF,zF] rfl rfl (any_of HT_.out (by kernel_rfl)) (fun _ _ _ h => h) (Or.inr ⟨by rfl, rfl⟩) ?_ ?_
             rotate_left
             ·
              simp only [Act.put, zS, zT, zU, i64_w, i32_w]
              rfl
             refine pure_ (i := 17) (N := some 54) (v := undef) (a' := ?_) #[zB,zB,zB,zB,zB,zB,zB,zB,zB,zB,zB,zB,zB,zB,zB,zB,zB,zB,zF,zF,zF,zF,zF,zF,zF,zF,zF,zF,zF,zF,zF,zF,zF] rfl rfl (any_of HT_.out (by kernel_rfl)) (fun _ _ _ h => h) (Or.inr ⟨by rfl, rfl⟩) ?_ ?_
             rotate_left
             ·
              simp only [Act.put, zS, zT, zU, i64_w, i32_w]
              rfl
             refine pure_ (i := 18) (N := some 55) (v := undef) (a' := ?_) #[zB,zB,zB,zB,zB,zB,zB,zB,zB,zB,zB,zB,zB,zB,zB,zB,zB,zB,zB,zF,zF,zF,zF,zF,zF,zF,zF,zF,zF,zF,zF,zF,zF] rfl rfl (any_of HT_.out (by kernel_rfl)) (fun _ _ _ h => h) (Or.inr ⟨by rfl, rfl⟩) ?_ ?_
             rotate_left
             ·
              simp only [Act.put, zS, zT, zU, i64_w, i32_w]
              rfl
             refine pure_ (i := 19) (N := some 56) (v := undef) (a' := ?_) #[zB,zB,zB,zB,zB,zB,zB,zB,zB,zB,zB,zB,zB,zB,zB,zB,zB,zB,zB,zB,zF,zF,zF,zF,zF,zF,zF,zF,zF,zF,zF,zF,zF] rfl rfl (any_of HT_.out (by kernel_rfl)) (fun _ _ _ h => h) (Or.inr ⟨by rfl, rfl⟩) ?_ ?_
             rotate_left
             ·
              simp only [Act.put, zS, zT, zU, i64_w, i32_w]
              rfl
             refine pure_ (i := 20) (N := some 57) (v := undef) (a' := ?_) #[zB,zB,zB,zB,zB,zB,zB,zB,zB,zB,zB,zB,zB,zB,zB,zB,zB,zB,zB,zB,zB,zF,zF,zF,zF,zF,zF,zF,zF,zF,zF,zF,zF] rfl rfl (any_of HT_.out (by kernel_rfl)) (fun _ _ _ h => h) (Or.inr ⟨by rfl, rfl⟩) ?_ ?_
             rotate_left
             ·
              simp only [Act.put, zS, zT, zU, i64_w, i32_w]
              rfl
             refine pure_ (i := 21) (N := some 58) (v := undef) (a' := ?_) #[zB,zB,zB,zB,zB,zB,zB,zB,zB,zB,zB,zB,zB,zB,zB,zB,zB,zB,zB,zB,zB,zB,zF,zF,zF,zF,zF,zF,zF,zF,zF,zF,zF] rfl rfl (any_of HT_.out (by kernel_rfl)) (fun _ _ _ h => h) (Or.inr ⟨by rfl, rfl⟩) ?_ ?_
             rotate_left
             ·
              simp only [Act.put, zS, zT, zU, i64_w, i32_w]
              rfl
             refine pure_ (i := 22) (N := some 59) (v := undef) (a' := ?_) #[zB,zB,zB,zB,zB,zB,zB,zB,zB,zB,zB,zB,zB,zB,zB,zB,zB,zB,zB,zB,zB,zB,zB,zF,zF,zF,zF,zF,zF,zF,zF,zF,zF] rfl rfl (any_of HT_.out (by kernel_rfl)) (fun _ _ _ h => h) (Or.inr ⟨by rfl, rfl⟩) ?_ ?_
             rotate_left
             ·
              simp only [Act.put, zS, zT, zU, i64_w, i32_w]
              rfl
             refine pure_ (i := 23) (N := some 60) (v := undef) (a' := ?_) #[zB,zB,zB,zB,zB,zB,zB,zB,zB,zB,zB,zB,zB,zB,zB,zB,zB,zB,zB,zB,zB,zB,zB,zB,zF,zF,zF,zF,zF,zF,zF,zF,zF] rfl rfl (any_of HT_.out (by kernel_rfl)) (fun _ _ _ h => h) (Or.inr ⟨by rfl, rfl⟩) ?_ ?_
             rotate_left
             ·
              simp only [Act.put, zS, zT, zU, i64_w, i32_w]
              rfl
             refine pure_ (i := 24) (N := some 61) (v := undef) (a' := ?_) #[zB,zB,zB,zB,zB,zB,zB,zB,zB,zB,zB,zB,zB,zB,zB,zB,zB,zB,zB,zB,zB,zB,zB,zB,zB,zF,zF,zF,zF,zF,zF,zF,zF] rfl rfl (any_of HT_.out (by kernel_rfl)) (fun _ _ _ h => h) (Or.inr ⟨by rfl, rfl⟩) ?_ ?_
             rotate_left
             ·
              simp only [Act.put, zS, zT, zU, i64_w, i32_w]
              rfl
             refine pure_ (i := 25) (N := some 62) (v := undef) (a' := ?_) #[zB,zB,zB,zB,zB,zB,zB,zB,zB,zB,zB,zB,zB,zB,zB,zB,zB,zB,zB,zB,zB,zB,zB,zB,zB,zB,zF,zF,zF,zF,zF,zF,zF] rfl rfl (any_of HT_.out (by kernel_rfl)) (fun _ _ _ h => h) (Or.inr ⟨by rfl, rfl⟩) ?_ ?_
             rotate_left
             ·
              simp only [Act.put, zS, zT, zU, i64_w, i32_w]
              rfl
             refine pure_ (i := 26) (N := some 63) (v := undef) (a' := ?_) #[zB,zB,zB,zB,zB,zB,zB,zB,zB,zB,zB,zB,zB,zB,zB,zB,zB,zB,zB,zB,zB,zB,zB,zB,zB,zB,zB,zF,zF,zF,zF,zF,zF] rfl rfl (any_of HT_.out (by kernel_rfl)) (fun _ _ _ h => h) (Or.inr ⟨by rfl, rfl⟩) ?_ ?_
             rotate_left
             ·
              simp only [Act.put, zS, zT, zU, i64_w, i32_w]
              rfl
             refine pure_ (i := 27) (N := some 64) (v := undef) (a' := ?_) #[zB,zB,zB,zB,zB,zB,zB,zB,zB,zB,zB,zB,zB,zB,zB,zB,zB,zB,zB,zB,zB,zB,zB,zB,zB,zB,zB,zB,zF,zF,zF,zF,zF] rfl rfl (any_of HT_.out (by kernel_rfl)) (fun _ _ _ h => h) (Or.inr ⟨by rfl, rfl⟩) ?_ ?_
             rotate_left
             ·
              simp only [Act.put, zS, zT, zU, i64_w, i32_w]
              rfl
             refine pure_ (i := 28) (N := some 65) (v := undef) (a' := ?_) #[zB,zB,zB,zB,zB,zB,zB,zB,zB,zB,zB,zB,zB,zB,zB,zB,zB,zB,zB,zB,zB,zB,zB,zB,zB,zB,zB,zB,zB,zF,zF,zF,zF] rfl rfl (any_of HT_.out (by kernel_rfl)) (fun _ _ _ h => h) (Or.inr ⟨by rfl, rfl⟩) ?_ ?_
             rotate_left
             ·
              simp only [Act.put, zS, zT, zU, i64_w, i32_w]
              rfl
             refine pure_ (i := 29) (N := some 66) (v := undef) (a' := ?_) #[zB,zB,zB,zB,zB,zB,zB,zB,zB,zB,zB,zB,zB,zB,zB,zB,zB,zB,zB,zB,zB,zB,zB,zB,zB,zB,zB,zB,zB,zB,zF,zF,zF] rfl rfl (any_of HT_.out (by kernel_rfl)) (fun _ _ _ h => h) (Or.inr ⟨by rfl, rfl⟩) ?_ ?_
             rotate_left
             ·
              simp only [Act.put, zS, zT, zU, i64_w, i32_w]
              rfl
             refine pure_ (i := 30) (N := some 67) (v := undef) (a' := ?_) #[zB,zB,zB,zB,zB,zB,zB,zB,zB,zB,zB,zB,zB,zB,zB,zB,zB,zB,zB,zB,zB,zB,zB,zB,zB,zB,zB,zB,zB,zB,zB,zF,zF] rfl rfl (any_of HT_.out (by kernel_rfl)) (fun _ _ _ h => h) (Or.inr ⟨by rfl, rfl⟩) ?_ ?_
             rotate_left
             ·
              simp only [Act.put, zS, zT, zU, i64_w, i32_w]
              rfl
             refine pure_ (i := 31) (N := some 68) (v := ?_) (a' := ?_) #[zB,zB,zB,zB,zB,zB,zB,zB,zB,zB,zB,zB,zB,zB,zB,zB,zB,zB,zB,zB,zB,zB,zB,zB,zB,zB,zB,zB,zB,zB,zB,zB,zF] rfl rfl (any_of HT_.out (by kernel_rfl)) (fun _ _ _ h => h) (Or.inl ⟨by rfl, ?_⟩) ?_ ?_
             rotate_left
             ·
              intro w'
              go_simp
              with_reducible rfl
             rotate_left
             ·
              simp only [Act.put, zS, zT, zU, i64_w, i32_w]
              rfl
             refine pure_ (i := 32) (N := some 36) (v := ?_) (a' := ?_) #[zB,zB,zB,zB,zB,zB,zB,zB,zB,zB,zB,zB,zB,zB,zB,zB,zB,zB,zB,zB,zB,zB,zB,zB,zB,zB,zB,zB,zB,zB,zB,zB,zB] rfl rfl (any_of HT_.out (by kernel_rfl)) (fun _ _ _ h => h) (Or.inl ⟨by rfl, ?_⟩) ?_ ?_
             rotate_left
             ·
              intro w'
              go_simp
              with_reducible rfl
             rotate_left
             ·
              simp only [Act.put, zS, zT, zU, i64_w, i32_w]
              rfl
             refine done_ (done_of HT_.out (by kernel_rfl)) ?_
             try go_wp2
             go_roundg kj7
             case measure => have := HK1.out; have := HJ7.out; omega
             case rel => exact ⟨(wrap64 (x10_1 + 1)), (by first | rfl | (simp; done) | (simp [*]; done)), H', ⟨by have := HK1.out; have := HJ7.out; omega⟩, ⟨by repeat (first | (with_reducible first | exact HB.out | apply zA | apply zN | apply zD | refine below_set ?_ GE660.out) | exact HB.out)⟩⟩
           ·
            replace c19 := Bool.eq_false_iff.mpr c19
            subst c19
            have H1 : (some 1) = some r := by rw [if_neg (show ¬ (false = true) by decide)] at H; exact H
            clear H
            have H := H1
            clear H1
            obtain rfl := Option.some.inj H
            have hcz47_0 : wc.cell? ⟨gb660, 0, none⟩ = some (.string ((rd_T80 l0 x10_1).f0)) := (blk_cell BK660.out 0).trans rfl
            have hcz47_1 : wc.cell? ⟨gb660, 1, none⟩ = some (.int .i64 ((rd_T80 l0 x10_1).f1)) := (blk_cell BK660.out 1).trans rfl
            have hcz47_2 : wc.cell? ⟨gb660, 2, none⟩ = some (.int .i64 ((rd_T80 l0 x10_1).f2)) := (blk_cell BK660.out 2).trans rfl
            have hcz47_3 : wc.cell? ⟨gb660, 3, none⟩ = some (.string ((rd_T80 l0 x10_1).f3)) := (blk_cell BK660.out 3).trans rfl
            have hfz47_0 := blk_frozen BK660.out 0
            have hfz47_1 := blk_frozen BK660.out 1
            have hfz47_2 := blk_frozen BK660.out 2
            have hfz47_3 := blk_frozen BK660.out 3
            go_wp2_with (first | ((with_reducible refine gate_callee (f := 105) rfl ?_); refine goesL_ (some 34) rfl rfl Tryd.func105 (by kernel_rfl) rfl #[.int .i64 1, .string ((rd_T80 l0 x10_1).f3)] rfl (by (try simp only [List.map_toArray, List.map_cons, List.map_nil]); first | done | rfl | (simp only [List.length_drop, List.length_take]; rfl)) ?_; (with_reducible refine (impl_isIdOf.calls 1 ((rd_T80 l0 x10_1).f3) false _ A18.out).mono ?_); rintro e w48 ⟨rfl, hb⟩; refine ⟨_, rfl, ?_⟩; have n0_ := zK (blk_below (g := gb660) (o := .cells #[.string ((rd_T80 l0 x10_1).f0), .int .i64 ((rd_T80 l0 x10_1).f1), .int .i64 ((rd_T80 l0 x10_1).f2), .string ((rd_T80 l0 x10_1).f3)] 80 (0, 0)) (by (with_reducible repeat (first | refine zM ?_ _ | refine zP ?_ | refine zQ ?_ _)); exact BK660.out) hb); have n1_ := zK (below_step (by repeat (first | (with_reducible first | exact HB.out | apply zA | apply zN | apply zD | refine below_set ?_ GE660.out) | exact HB.out)) hb); clear BK660; clear HB; have BK660 := n0_; have HB := n1_; clear n0_ n1_; (try clear hb); (try clear hb2); (try clear hk); (try clear hi)))
            go_ret
            exact ⟨by first | rfl | (simp [errW_none, errW_some] <;> rfl) | (simp [*, errW_none, errW_some] <;> rfl), by repeat (first | (with_reducible first | exact HB.out | apply zA | apply zN | apply zD | refine below_set ?_ GE660.out) | exact HB.out)⟩
       ·
        rw [if_neg c7] at H
        have c7b0 : (t661 == 0) = false := beq_eq_false_iff_ne.mpr c7
        have c7b1 : (t661 != 0) = true := bne_iff_ne.mpr c7
        obtain rfl := Option.some.inj H
        have p659 : 0 ≤ (x10_1 : Int) := zX (by first | (with_reducible assumption) | assumption)
        have q659 : x10_1 < (l0.length : Int) := zX (by first | (with_reducible assumption) | assumption)
        obtain ⟨ad659, e659, hx659_0, hx659_1, hx659_2, hx659_3⟩ := at_T80 HR0.out x10_1 p659 q659
        cases e659
        replace hx659_0 := (HB.out.cell (zL w _ hx659_0)).trans hx659_0
        replace hx659_1 := (HB.out.cell (zL w _ hx659_1)).trans hx659_1
        replace hx659_2 := (HB.out.cell (zL w _ hx659_2)).trans hx659_2
        replace hx659_3 := (HB.out.cell (zL w _ hx659_3)).trans hx659_3
        replace p659 := eq_true p659
        replace q659 := eq_true q659
        go_wp2_with (first | ((with_reducible refine gate_dst (N := 4) rfl ?_); refine box_event ?hg (N := 4) ?hd (cs := #[.string (⟨#[]⟩ : ByteArray), .int .i64 0, .int .i64 0, .string (⟨#[]⟩ : ByteArray)]) (t := 80) ?hr ?_; (case hd => rfl); (case hg => rfl); (case hr => first | (go_simp; done) | (go_simp; rfl)); intro gb660 hg w49 hbox hb; have n0_ := zK (below_step (by repeat (first | (with_reducible first | exact HB.out | apply zA | apply zN | apply zD) | exact HB.out)) hb); have n1_ := zK (hbox); have n2_ := zK ((by rw [hg]; exact (below_size (by repeat (first | (with_reducible first | exact HB.out | apply zA | apply zN | apply zD) | exact HB.out))) : w.heap.size ≤ gb660)); have n3_ := zK ((by rw [hg]; exact (below_size (by repeat (first | (with_reducible first | exact HB.out | apply zA | apply zN | apply zD) | exact HB.out))) : w.heap.size ≤ gb660)); clear HB; have HB := n0_; have BK660 := n1_; have GW660 := n2_; have GE660 := n3_; clear n0_ n1_ n2_ n3_; clear hb hbox hg; have hcz50_0 : w49.cell? ⟨gb660, 0, none⟩ = some (.string (⟨#[]⟩ : ByteArray)) := (blk_cell BK660.out 0).trans rfl; have hcz50_1 : w49.cell? ⟨gb660, 1, none⟩ = some (.int .i64 0) := (blk_cell BK660.out 1).trans rfl; have hcz50_2 : w49.cell? ⟨gb660, 2, none⟩ = some (.int .i64 0) := (blk_cell BK660.out 2).trans rfl; have hcz50_3 : w49.cell? ⟨gb660, 3, none⟩ = some (.string (⟨#[]⟩ : ByteArray)) := (blk_cell BK660.out 3).trans rfl; have hfz50_0 := blk_frozen BK660.out 0; have hfz50_1 := blk_frozen BK660.out 1; have hfz50_2 := blk_frozen BK660.out 2; have hfz50_3 := blk_frozen BK660.out 3) | ((with_reducible refine gate_callee (f := 102) rfl ?_); refine goesL_ (some 18) rfl rfl Tryd.func102 (by kernel_rfl) rfl #[.string ((rd_T80 l0 x10_1).f0)] rfl (by (try simp only [List.map_toArray, List.map_cons, List.map_nil]); first | done | rfl | (simp only [List.length_drop, List.length_take]; rfl)) ?_; (with_reducible refine (impl_PathFault.calls ((rd_T80 l0 x10_1).f0) t661 _ A6.out).mono ?_); rintro e w51 ⟨rfl, hb⟩; refine ⟨_, rfl, ?_⟩; have n0_ := zK (blk_below (g := gb660) (o := .cells #[.string ((rd_T80 l0 x10_1).f0), .int .i64 ((rd_T80 l0 x10_1).f1), .int .i64 ((rd_T80 l0 x10_1).f2), .string ((rd_T80 l0 x10_1).f3)] 80 (0, 0)) (by (with_reducible repeat (first | refine zM ?_ _ | refine zP ?_ | refine zQ ?_ _)); refine blk_put (cs := #[.string ((rd_T80 l0 x10_1).f0), .int .i64 ((rd_T80 l0 x10_1).f1), .int .i64 ((rd_T80 l0 x10_1).f2), .string (⟨#[]⟩ : ByteArray)]) ?_ 3 _ rfl; (with_reducible repeat (first | refine zM ?_ _ | refine zP ?_ | refine zQ ?_ _)); refine blk_put (cs := #[.string ((rd_T80 l0 x10_1).f0), .int .i64 ((rd_T80 l0 x10_1).f1), .int .i64 0, .string (⟨#[]⟩ : ByteArray)]) ?_ 2 _ rfl; (with_reducible repeat (first | refine zM ?_ _ | refine zP ?_ | refine zQ ?_ _)); refine blk_put (cs := #[.string ((rd_T80 l0 x10_1).f0), .int .i64 0, .int .i64 0, .string (⟨#[]⟩ : ByteArray)]) ?_ 1 _ rfl; (with_reducible repeat (first | refine zM ?_ _ | refine zP ?_ | refine zQ ?_ _)); refine blk_put (cs := #[.string (⟨#[]⟩ : ByteArray), .int .i64 0, .int .i64 0, .string (⟨#[]⟩ : ByteArray)]) ?_ 0 _ rfl; (with_reducible repeat (first | refine zM ?_ _ | refine zP ?_ | refine zQ ?_ _)); exact BK660.out) hb); have n1_ := zK (below_step (by repeat (first | (with_reducible first | exact HB.out | apply zA | apply zN | apply zD | refine below_set ?_ GE660.out) | exact HB.out)) hb); clear BK660; clear HB; have BK660 := n0_; have HB := n1_; clear n0_ n1_; (try clear hb); (try clear hb2); (try clear hk); (try clear hi)))
        go_ret
        exact ⟨by first | rfl | (simp [errW_none, errW_some] <;> rfl) | (simp [*, errW_none, errW_some] <;> rfl), by repeat (first | (with_reducible first | exact HB.out | apply zA | apply zN | apply zD | refine below_set ?_ GE660.out) | exact HB.out)⟩
      ·
       rw [if_neg c5] at H
       exact absurd H (by simp)
     ·
      rw [if_neg c4] at H
      exact absurd H (by simp)
    ·
     rw [if_neg c3] at H
     have c3b0 : decide (x10_1 < (l0.length : Int)) = false := decide_eq_false c3
     clear c3
     obtain rfl := Option.some.inj H
     go_wp2
     go_ret
     exact ⟨by first | rfl | (simp [errW_none, errW_some] <;> rfl) | (simp [*, errW_none, errW_some] <;> rfl), by repeat (first | (with_reducible first | exact HB.out | apply zA | apply zN | apply zD) | exact HB.out)⟩

end Go.Proofs.YtjibadlbiapcmaaDoor.PX

namespace Go.Proofs.YtjibadlbiapcmaaDoorX
open Go Go.RowKit Go.Proofs.YtjibadlbiapcmaaDoorW.PrintWords Go.Proofs.YtjibadlbiapcmaaDoor.PX

/-- Text cut at each slash. -/
def splitL : List UInt8 → List (List UInt8)
  | [] => [[]]
  | b :: l => if b = 47 then [] :: splitL l else match splitL l with | [] => [[b]] | p :: ps => (b :: p) :: ps
theorem splitL_some : ∀ l, ∃ p ps, splitL l = p :: ps
  | [] => ⟨[], [], rfl⟩
  | b :: l => by
    unfold splitL
    split
    · exact ⟨_, _, rfl⟩
    · split <;> exact ⟨_, _, rfl⟩
theorem splitL_other {b : UInt8} {l p : List UInt8} {ps : List (List UInt8)} (hb : b ≠ 47) (h : splitL l = p :: ps) : splitL (b :: l) = (b :: p) :: ps := by
  rw [splitL, if_neg hb, h]
def partsB (s : ByteArray) : List ByteArray := (splitL s.data.toList).map mkB

theorem splitL_miss : ∀ l : List UInt8, Lib.indexByte l 47 = -1 → splitL l = [l]
  | [], _ => rfl
  | b :: l, h => by
    unfold Lib.indexByte at h
    by_cases hb : b = 47
    · subst hb
      simp at h
    · rw [if_neg (by simpa using hb)] at h
      by_cases h2 : Lib.indexByte l 47 = -1
      · exact splitL_other hb (splitL_miss l h2)
      · rw [if_neg (by simpa using h2)] at h
        have := Lib.indexByte_ge l 47
        omega
theorem splitL_hit : ∀ (l : List UInt8) (i : Nat), Lib.indexByte l 47 = (i : Int) → splitL l = l.take i :: splitL (l.drop (i + 1))
  | [], i, h => by
    unfold Lib.indexByte at h
    omega
  | b :: l, i, h => by
    unfold Lib.indexByte at h
    by_cases hb : b = 47
    · subst hb
      rw [if_pos (by decide)] at h
      have : i = 0 := by omega
      subst this
      rw [splitL, if_pos rfl]
      rfl
    · rw [if_neg (by simpa using hb)] at h
      by_cases h2 : Lib.indexByte l 47 = -1
      · rw [if_pos (by simpa using h2)] at h
        omega
      · rw [if_neg (by simpa using h2)] at h
        have := Lib.indexByte_ge l 47
        obtain ⟨m, hm⟩ : ∃ m : Nat, Lib.indexByte l 47 = (m : Int) := ⟨(Lib.indexByte l 47).toNat, by omega⟩
        have e : i = m + 1 := by omega
        subst e
        exact splitL_other hb (splitL_hit l m hm)

theorem index_of (s : ByteArray) : Lib.indexB s ⟨#[47]⟩ = Lib.indexByte s.data.toList 47 := Lib.index_one _ _

theorem splitB_parts : ∀ (k : Nat) (s : ByteArray), Lib.countB s ⟨#[47]⟩ = k → Lib.splitB ⟨#[47]⟩ 0 k s = partsB s
  | 0, s, hk => by
    rcases Lib.indexB_cases s ⟨#[47]⟩ with hix | ⟨i, hix, _⟩
    · unfold partsB
      rw [splitL_miss _ ((index_of s).symm.trans hix)]
      show [s] = [mkB s.data.toList]
      rw [← mkB_of rfl]
    · have := Lib.countB_hit s ⟨#[47]⟩ i (by decide) hix
      omega
  | k + 1, s, hk => by
    rcases Lib.indexB_cases s ⟨#[47]⟩ with hix | ⟨i, hix, hroom⟩
    · rw [Lib.countB_miss s ⟨#[47]⟩ hix] at hk; omega
    · rw [Lib.splitB_hit ⟨#[47]⟩ 0 k s i hix, splitB_parts k _ (by have := Lib.countB_hit s ⟨#[47]⟩ i (by decide) hix; omega)]
      unfold partsB
      rw [splitL_hit _ i ((index_of s).symm.trans hix), List.map_cons]
      congr 1
      · apply mkB_of
        rw [extract_list, List.drop_zero]
        rfl
      · congr 2
        rw [extract_list]
        apply List.take_of_length_le
        rw [List.length_drop, ← size_list]
        exact Nat.le_refl _
theorem pieces_eq (s : ByteArray) : impl_PathFault.pieces s = partsB s := splitB_parts _ s rfl

/-- The reference's loop over the bytes: what has been cut, where the next piece begins. -/
theorem l7Parts_from (s : ByteArray) (hs : s.size ≤ 1099511627776) : ∀ (d i : Nat), i + d = s.size → ∀ (out : List ByteArray) (fr : Nat), fr ≤ i → out.length ≤ fr → ∀ (p : List UInt8) (ps : List (List UInt8)), splitL (s.data.toList.drop i) = p :: ps → ∀ k, d + 2 < k →
    spec_l7Parts.l0 k s out (fr : Int) (i : Int) = some (out ++ mkB ((s.data.toList.drop fr).take (i - fr) ++ p) :: ps.map mkB)
  | 0, i, hi, out, fr, hf, ho, p, ps, hp, k, hk => by
    obtain ⟨k, rfl⟩ : ∃ m, k = m + 2 := ⟨k - 2, by omega⟩
    have e : i = s.size := by omega
    subst e
    rw [List.drop_of_length_le (by rw [← size_list]; exact Nat.le_refl _)] at hp
    obtain ⟨rfl, rfl⟩ := List.cons.inj hp
    rw [spec_l7Parts.l0, if_pos (by omega), if_pos rfl, if_pos (by omega), if_pos (by omega), if_pos (by omega), wrap_in (by omega) (by omega), spec_l7Parts.l0, if_neg (by omega)]
    rw [List.append_nil, Int.toNat_natCast, Int.toNat_natCast, ← extract_list, ← mkB_of rfl]
    rfl
  | d + 1, i, hi, out, fr, hf, ho, p, ps, hp, k, hk => by
    obtain ⟨k, rfl⟩ : ∃ m, k = m + 1 := ⟨k - 1, by omega⟩
    have hlt : i < s.data.toList.length := by rw [← size_list]; omega
    have eb : s.data.toList.getD i 0 = s.data.toList[i] := by rw [List.getD_eq_getElem?_getD, List.getElem?_eq_getElem hlt, Option.getD_some]
    rw [List.drop_eq_getElem_cons hlt] at hp
    rw [spec_l7Parts.l0, if_pos (by omega), if_neg (by omega), if_pos (by omega), if_pos (by omega), bt_nat, eb]
    generalize hb : s.data.toList[i] = b at hp
    obtain ⟨q, qs, hq⟩ := splitL_some (s.data.toList.drop (i + 1))
    by_cases h47 : b = 47
    · subst h47
      rw [splitL, if_pos rfl] at hp
      obtain ⟨rfl, rfl⟩ := List.cons.inj hp
      rw [if_pos (by decide), if_pos (by omega), if_pos (by omega), if_pos (by omega), wrap_in (by omega) (by omega), show ((i : Int) + 1) = ((i + 1 : Nat) : Int) from rfl]
      rw [l7Parts_from s hs d (i + 1) (by omega) _ (i + 1) (Nat.le_refl _) (by rw [List.length_append]; show out.length + 1 ≤ i + 1; omega) q qs hq k (by omega)]
      rw [Nat.sub_self, List.take_zero, List.nil_append, List.append_nil, hq, Int.toNat_natCast, Int.toNat_natCast, List.append_assoc, ← extract_list, ← mkB_of rfl]
      rfl
    · rw [splitL_other h47 hq] at hp
      obtain ⟨rfl, rfl⟩ := List.cons.inj hp
      rw [if_neg (fun z => h47 (UInt8.toNat_inj.1 (by have : b.toNat = 47 := by omega
                                                      rw [this]; rfl))), wrap_in (by omega) (by omega), show ((i : Int) + 1) = ((i + 1 : Nat) : Int) from rfl]
      rw [l7Parts_from s hs d (i + 1) (by omega) _ fr (by omega) ho q qs hq k (by omega)]
      congr 3
      rw [show i + 1 - fr = (i - fr) + 1 by omega, List.take_succ_eq_append_getElem (by rw [List.length_drop]; omega), List.append_assoc, List.getElem_drop]
      simp only [show fr + (i - fr) = i by omega]
      rw [hb]
      rfl

theorem spec_parts (s : ByteArray) (hs : s.size ≤ 1099511627776) (k : Nat) (hk : s.size + 2 < k) : spec_l7Parts.f k s = some (partsB s) := by
  obtain ⟨p, ps, hp⟩ := splitL_some s.data.toList
  unfold spec_l7Parts.f partsB
  rw [hp]
  exact l7Parts_from s hs s.size 0 (by omega) [] 0 (Nat.le_refl _) (Nat.le_refl _) p ps hp k hk

theorem partsB_le (s : ByteArray) (hs : s.size < 4294967281) : (partsB s).length ≤ s.size + 1 := by
  rw [← pieces_eq]
  exact X.pieces_le s ⟨#[47]⟩ 0 rfl hs

def partStep (l : List ByteArray) (i : Nat) (_ : Unit) : Sum Int Unit := if nameM (l.getD i ByteArray.empty).data.toList = true then .inr () else .inl 1
theorem run_part (l : List ByteArray) : run (partStep l) (fun _ => (0 : Int)) l.length 0 () = if l.any impl_PathFault.bad = true then 1 else 0 := by
  have key : ∀ d i, i + d = l.length → run (partStep l) (fun _ => (0 : Int)) d i () = if (l.drop i).any impl_PathFault.bad = true then 1 else 0 := by
    intro d
    induction d with
    | zero =>
      intro i hi
      rw [run_zero, List.drop_of_length_le (by omega)]
      rfl
    | succ d ih =>
      intro i hi
      have hlt : i < l.length := by omega
      have e : l.getD i ByteArray.empty = l[i] := by rw [List.getD_eq_getElem?_getD, List.getElem?_eq_getElem hlt, Option.getD_some]
      rw [List.drop_eq_getElem_cons hlt, List.any_cons, ← e]
      unfold impl_PathFault.bad
      cases h : nameM (l.getD i ByteArray.empty).data.toList with
      | true => rw [run_on (s' := ()) (by unfold partStep; rw [h]; rfl), ih (i + 1) (by omega), Bool.not_true, Bool.false_or]; rfl
      | false => rw [run_out (r := (1 : Int)) (by unfold partStep; rw [h]; rfl)]; rfl
  exact key l.length 0 (by omega)

/-- What PathFault tells. -/
def pathV (s : ByteArray) : Int := impl_PathFault.v s
theorem pathV_two (s : ByteArray) : pathV s = 0 ∨ pathV s = 1 := by
  unfold pathV impl_PathFault.v
  (repeat' split) <;> simp
theorem impl_path (s : ByteArray) (hs : s.size < 4294967281) : impl_PathFault.f s = some (pathV s) := by
  unfold impl_PathFault.f
  rw [if_pos hs]
  rfl
theorem spec_path (s : ByteArray) (hs : s.size < 4294967281) (k : Nat) (hk : s.size + 40 < k) : spec_PathFault.f k s = some (pathV s) := by
  have hle := partsB_le s hs
  unfold spec_PathFault.f
  rw [spec_parts s (by omega) k (by omega), Option.bind_some]
  unfold pathV impl_PathFault.v
  rw [pieces_eq]
  by_cases h4 : (partsB s).length ≤ 4
  · rw [if_neg (by omega), if_pos h4, ← run_part]
    refine loop0 (F := fun k i (_ : Unit) => spec_PathFault.l0 k (partsB s) (i : Int)) (partsB s).length 20 (fun _ _ => True) (fun _ _ _ _ _ _ => trivial) (fun k i _ hK hi _ => ?_) (fun k _ _ _ => ?_) () trivial k (by omega)
    · simp only [spec_PathFault.l0]
      rw [if_pos (by omega), if_pos (by omega), wrap_in (by omega) (by omega), rdOf_nat, spec_name _ k (by omega), Option.bind_some]
      unfold partStep
      cases nameM ((partsB s).getD i ByteArray.empty).data.toList <;> rfl
    · simp only [spec_PathFault.l0]
      rw [if_neg (by omega)]
  · rw [if_pos (by omega), if_neg h4]
def modeOk (a : Int) : Bool := decide (a = 1) || decide (a = 2)
theorem impl_mode (a : Int) : impl_isFileMode.f a = some (modeOk a) := by
  unfold impl_isFileMode.f modeOk
  by_cases h : a = 1
  · rw [if_pos h, decide_eq_true h, Bool.true_or]
  · rw [if_neg h, decide_eq_false h, Bool.false_or]; rfl

abbrev IEntry := S80
theorem eqEntry_tells (x y : IEntry) : ∃ b, laws_eqEntry.f x.f0 x.f1 x.f2 x.f3 y.f0 y.f1 y.f2 y.f3 = some b ∧ (b = true ↔ x = y) := by
  obtain ⟨a, b, c, d⟩ := x
  obtain ⟨a', b', c', d'⟩ := y
  unfold laws_eqEntry.f
  simp only [toList_iff]
  by_cases h1 : a = a'
  · rw [if_pos h1]
    by_cases h2 : b = b'
    · rw [if_pos h2]
      by_cases h3 : c = c'
      · rw [if_pos h3]
        by_cases h4 : d = d'
        · rw [if_pos h4]; exact ⟨_, rfl, by simp [h1, h2, h3, h4]⟩
        · rw [if_neg h4]; exact ⟨_, rfl, by simp [h4]⟩
      · rw [if_neg h3]; exact ⟨_, rfl, by simp [h3]⟩
    · rw [if_neg h2]; exact ⟨_, rfl, by simp [h2]⟩
  · rw [if_neg h1]; exact ⟨_, rfl, by simp [h1]⟩
theorem eqEntryS_same (l : List IEntry) (hl : l.length ≤ 1048576) (k : Nat) (hk : l.length < k) : laws_eqEntryS.f k l l = some true := by
  unfold laws_eqEntryS.f
  rw [if_pos rfl]
  exact eq_all (F := laws_eqEntryS.l0) (E := fun x y => laws_eqEntry.f x.f0 x.f1 x.f2 x.f3 y.f0 y.f1 y.f2 y.f3) z80 eqEntry_tells (fun k xs ys i => by rw [laws_eqEntryS.l0]; rfl) l (by omega) k hk

def entAt (l : List IEntry) (i : Nat) : IEntry := l.getD i z80
theorem rd_entry (l : List IEntry) (i : Nat) : rd_T80 l (i : Int) = entAt l i := by
  unfold entAt
  show l.getD ((i : Int)).toNat _ = _
  rw [Int.toNat_natCast]
end Go.Proofs.YtjibadlbiapcmaaDoorX

namespace Go.Proofs.YtjibadlbiapcmaaDoorX
open Go Go.RowKit Go.Proofs.YtjibadlbiapcmaaDoorW.PrintWords Go.Proofs.YtjibadlbiapcmaaDoor.PX
set_option linter.unusedVariables false

def entryMark (n : Nat) : IEntry := ⟨markT n, ((n + 1 : Nat) : Int), ((n + 2 : Nat) : Int), markT (n + 3)⟩
theorem wrap_succ (n : Nat) (h : n < 9223372036854775807) : wrap64 ((n : Int) + 1) = ((n + 1 : Nat) : Int) := (wrap_in (by omega) (by omega)).trans (by omega)
theorem rd_set_entry (xs : List IEntry) (i : Nat) (v : IEntry) (h : i < xs.length) : rd_T80 (xs.set ((i : Int)).toNat v) (i : Int) = v := by
  show (xs.set ((i : Int)).toNat v).getD ((i : Int)).toNat _ = v
  rw [Int.toNat_natCast, List.getD_eq_getElem?_getD, List.getElem?_set_self h]
  rfl
theorem markEntryS_tells (l : List IEntry) (n : Nat) (hn : n + 4 * l.length ≤ 9223372036854775800) (k : Nat) (hk : 21 + l.length < k) : laws_markEntryS.f k l (n : Int) = some (((n + 4 * l.length : Nat) : Int), (List.range l.length).map fun j => entryMark (n + 4 * j)) := by
  unfold laws_markEntryS.f
  have := mark_all (F := laws_markEntryS.l0) 4 entryMark 9223372036854775800 21 (fun k xs n i hk hi hL hn => by
      have hlt : i < xs.length := hi
      have c1 : (i : Int) < (xs.length : Int) := by omega
      have c2 : (0 : Int) ≤ (i : Int) := by omega
      have m1 := markText_tells n (by omega) k hk
      have m2 := markText_tells (n + 3) (by omega) k hk
      have b1 : n < 9223372036854775807 := by omega
      have b2 : n + 1 < 9223372036854775807 := by omega
      have b3 : n + 2 < 9223372036854775807 := by omega
      have b4 : n + 3 < 9223372036854775807 := by omega
      have b5 : i < 9223372036854775807 := by omega
      have w1 := wrap_succ n b1
      have w2 := wrap_succ (n + 1) b2
      have w3 := wrap_succ (n + 2) b3
      have w4 := wrap_succ (n + 3) b4
      have w5 := wrap_succ i b5
      rw [laws_markEntryS.l0, if_pos c1, m1, Option.bind_some, if_pos c2, Option.bind_some, w1, rd_set_entry xs i _ hlt, Option.bind_some, w2]
      rw [rd_set_entry _ i _ (by rw [List.length_set]; exact hlt), Option.bind_some, w3, m2, Option.bind_some, w4, w5]
      rw [rd_set_entry _ i _ (by rw [List.length_set, List.length_set]; exact hlt), List.set_set, List.set_set, List.set_set, Int.toNat_natCast]
      rfl) (fun k xs n => by rw [laws_markEntryS.l0, if_neg (by omega)]) l.length 0 n l (by omega) (by omega) hn k (by omega)
  simpa using this

def entryMarks (n L : Nat) : List IEntry := (List.range L).map fun j => entryMark (n + 4 * j)
theorem heldEntryS_tells (L n : Nat) (hn : n + 4 * L ≤ 9223372036854775800) (k : Nat) (hk : 21 + L < k) : laws_heldEntryS.f k (entryMarks n L) (n : Int) = some ((n + 4 * L : Nat) : Int) := by
  unfold laws_heldEntryS.f entryMarks
  have := held_all (G := laws_heldEntryS.l0) 4 entryMark z80 9223372036854775800 21 (fun k xs n i hk hi hL hn hx => by
      have hr : rd_T80 xs (i : Int) = entryMark n := by
        show xs.getD ((i : Int)).toNat _ = _
        rw [Int.toNat_natCast]
        exact hx
      have m1 := markText_tells n (by omega) k hk
      have m2 := markText_tells (n + 3) (by omega) k hk
      have c1 : (i : Int) < (xs.length : Int) := by omega
      have c2 : (0 : Int) ≤ (i : Int) := by omega
      have b1 : n < 9223372036854775807 := by omega
      have b2 : n + 1 < 9223372036854775807 := by omega
      have b3 : n + 2 < 9223372036854775807 := by omega
      have b4 : n + 3 < 9223372036854775807 := by omega
      have b5 : i < 9223372036854775807 := by omega
      have w1 := wrap_succ n b1
      have w2 := wrap_succ (n + 1) b2
      have w3 := wrap_succ (n + 2) b3
      have w4 := wrap_succ (n + 3) b4
      have w5 := wrap_succ i b5
      rw [laws_heldEntryS.l0, if_pos c1, if_pos c2, m1, Option.bind_some, hr, if_pos (show (entryMark n).f0.toList = (markT n).toList from rfl), w1, if_pos (show (entryMark n).f1 = ((n + 1 : Nat) : Int) from rfl), w2, if_pos (show (entryMark n).f2 = ((n + 2 : Nat) : Int) from rfl), w3, m2, Option.bind_some, if_pos (show (entryMark n).f3.toList = (markT (n + 3)).toList from rfl), w4, w5]) (fun k xs n => by rw [laws_heldEntryS.l0, if_neg (by omega)]) L n (by omega) hn L 0 (by omega) k (by omega)
  simpa using this
end Go.Proofs.YtjibadlbiapcmaaDoorX
