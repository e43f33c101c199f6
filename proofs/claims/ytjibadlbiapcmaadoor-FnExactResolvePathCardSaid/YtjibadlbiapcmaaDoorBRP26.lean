/- Texts of this claim set one behind another by wip/bundle.py: XTen, PXf138, PXf91, PXf40. -/
import Derived.Test.YtjibadlbiapcmaaDoorBRP15
import Derived.Test.YtjibadlbiapcmaaDoorBRP12
import Derived.Test.YtjibadlbiapcmaaDoorBRP25
import Derived.Test.YtjibadlbiapcmaaDoorBRP3
import Derived.IntWalk
import Derived.Deep.RegionHeld3
import Derived.BigQuiet
import Derived.Test.YtjibadlbiapcmaaDoorBRP13
namespace Go.Proofs.YtjibadlbiapcmaaDoor.PX.X
open Go Go.RowKit Go.Lib Go.Proofs.YtjibadlbiapcmaaDoorW.PrintWords Go.Proofs.YtjibadlbiapcmaaDoor.PX
set_option linter.unusedVariables false
set_option linter.unusedSimpArgs false
/-- An entry that stands behind x. -/
def aheadE (x y : EntT) : Bool := if lessB x.f0 y.f0 = true then true else if y.f0 = x.f0 then decide (y.f1 > x.f1) else false
def placeE (l : List EntT) (x : EntT) : Nat → Nat
  | 0 => 0
  | n + 1 => if aheadE x (l.getD n z80) = true then placeE l x n else n + 1
def insE (l : List EntT) (x : EntT) : List EntT := (l.take (placeE l x l.length) ++ [x]) ++ l.drop (placeE l x l.length)
theorem C_oneE {W : World} {m : Nat} {x : EntT} (h : W.heap[m]? = some (.cells #[.string x.f0, .int .i64 x.f1, .int .i64 x.f2, .string x.f3] 80 (0, 0))) : Kd.C k80 W (some ⟨m, 0, none⟩) 1 [x] := by
  refine ⟨rfl, by decide, fun _ => ⟨_, rfl, fun j p hj => ?_⟩⟩
  match j, hj with
  | 0, hj =>
    have e : x = p := Option.some.inj hj
    subst e
    refine ⟨encE x, rfl, flatE.K.2 rfl, fun i u hu => ?_⟩
    rw [Go.Proofs.YtjibadlbiapcmaaDoorW.PrintWords.add_plain, Nat.zero_mul, Nat.zero_add]
    exact (blk_cell h i).trans ((List.getElem?_toArray (xs := encE x)).trans hu)
  | j + 1, hj => simp at hj
theorem R_emptyE {W : World} {n B : Nat} (hn : B ≤ n) (h : W.heap[n]? = some (.cells #[] 80 (0, 0))) : Kd.R k80 80 W B (fun _ => True) (.slice (some ⟨n, 0, none⟩) 0 0) [] := by
  refine ⟨fun _ _ => trivial, [], ⟨rfl, .inr ⟨n, 0, #[], rfl, hn, h, Nat.le_refl _, by decide, rfl, rfl⟩⟩, Reps.none _ _⟩
theorem C_takeE {w : World} {A : Option Addr} {l : List EntT} {m : Nat} (h : Kd.C k80 w A l.length l) (hm : m ≤ l.length) : Kd.C k80 w A m (l.take m) := by
  have h2 := Kd.C_take h hm
  rw [List.length_take, Nat.min_eq_left hm] at h2
  exact h2
theorem C_dropE {w : World} {A : Option Addr} {l : List EntT} {m c : Nat} (h : Kd.C k80 w A l.length l) (hm : m ≤ l.length) (hc : l.length ≤ c) : Kd.C k80 w (if c = m then A else A.map (·.add (m * 4))) (l.length - m) (l.drop m) := by
  have h2 := Kd.C_drop h hm hc
  rw [List.length_drop, show (k80 : Kd EntT).sz = 4 from rfl] at h2
  exact h2
theorem keepE4 {a b c d : Addr} {va vb vc vd : Value} {W w' : World} (h0 : W.cell? a = some va) (h1 : W.cell? b = some vb) (h2 : W.cell? c = some vc) (h3 : W.cell? d = some vd) (hb : Below W.heap.size W w') : w'.cell? a = some va ∧ w'.cell? b = some vb ∧ w'.cell? c = some vc ∧ w'.cell? d = some vd ∧ Below W.heap.size W w' :=
  ⟨(hb.cell (World.block_lt_of_cell? W _ h0)).trans h0, (hb.cell (World.block_lt_of_cell? W _ h1)).trans h1, (hb.cell (World.block_lt_of_cell? W _ h2)).trans h2, (hb.cell (World.block_lt_of_cell? W _ h3)).trans h3, hb⟩
set_option maxHeartbeats 1000000 in
set_option maxRecDepth 8000 in
theorem l10Put_calls (A0 : Option Addr) (c0 : Nat) (l0 : List EntT) (x : EntT) (w : World) (hr0 : Kd.C k80 w A0 l0.length l0) (hc0 : l0.length ≤ c0) (hbig : l0.length ≤ 1048576) :
    Calls Tryd.prog 138 #[.slice A0 l0.length c0, .agg #[.string x.f0, .int .i64 x.f1, .int .i64 x.f2, .string x.f3]] w fun e w' => ∃ v, e = .returned v ∧ Kd.R k80 80 w' w.heap.size (fun _ => True) v (insE l0 x) ∧ Below w.heap.size w w' := by
  have HR := Lib.hid hr0
  have HBIG := Lib.hid hbig
  clear hr0
  go_enter Tryd.func138, Tryd.ntmps138
  go_wp2_with ((with_reducible refine gate_dst (N := 3) rfl ?_); refine box_event ?hg (N := 3) ?hd (cs := #[.string x.f0, .int .i64 x.f1, .int .i64 x.f2, .string x.f3]) (t := 80) ?hr ?_; (case hd => rfl); (case hg => rfl); (case hr => first | (go_simp; done) | (go_simp; rfl)); intro gb hgb w1 hbox hb1; have X1 := Lib.hid hbox; have HB1 := Lib.hid hb1; have HGB := Lib.hid hgb; clear hbox hb1 hgb)
  go_loopg [5] (l0.length + 1) (fun gg s5 wr => ∃ n : Nat, n ≤ l0.length ∧ n ≤ gg ∧ s5 = .int .i64 n ∧ Aside (placeE l0 x l0.length = placeE l0 x n) ∧ Aside (Below w1.heap.size w1 wr))
  case atStart => exact ⟨l0.length, Nat.le_refl _, by omega, rfl, rfl, Below.refl _ _⟩
  case round =>
    obtain ⟨n, hn, hg2, rfl, AP, AB⟩ := hrel
    by_cases hpos : 0 < n
    · obtain ⟨m, hm⟩ : ∃ m, n = m + 1 := ⟨n - 1, by omega⟩
      have hmz : (0 : Int) ≤ (m : Int) := by omega
      have hml : (m : Int) < (l0.length : Int) := by omega
      have hgt : (n : Int) > 0 := by omega
      have hws : IntKind.i64.wrap ((n : Int) - 1) = (m : Int) := (IntWalk.i64_in _ (by omega)).trans (by omega)
      obtain ⟨a3, rfl, r0, r1, _, _⟩ := at_T80 (Kd.C_below HR.out (HB1.out.trans (AB.out.mono HB1.out.size))) (m : Int) hmz hml
      have hy : rd_T80 l0 (m : Int) = l0.getD m z80 := by
        show l0.getD ((m : Int)).toNat _ = _
        rw [Int.toNat_natCast]
      have hp : placeE l0 x n = if aheadE x (l0.getD m z80) = true then placeE l0 x m else n := by rw [hm]; rfl
      rw [hy] at r0 r1
      rw [Int.toNat_natCast] at r0 r1
      clear hy
      generalize l0.getD m z80 = y at r0 r1 hp
      have HP := Lib.hid hp
      have HM := Lib.hid hm
      clear hp hm
      have hxb := blk_below X1.out AB.out
      have b0 : wr.cell? ⟨gb, 0, none⟩ = some (.string x.f0) := (blk_cell hxb 0).trans rfl
      have b1 : wr.cell? ⟨gb, 1, none⟩ = some (.int .i64 x.f1) := (blk_cell hxb 1).trans rfl
      clear hxb
      by_cases hless : lessB x.f0 y.f0 = true
      · have hb : Op.bytesLess x.f0.toList y.f0.toList = true := by rw [toList_data, toList_data]; exact hless
        have hah : aheadE x y = true := by unfold aheadE; rw [if_pos hless]
        go_wp2
        go_quiet (fail)
        have AB4 := Lib.hid (show Below w1.heap.size w1 (wr.drewN nq) from pw_below_drewN AB.out nq)
        generalize wr.drewN nq = W4 at AB4 ⊢
        clear r0 r1 b0 b1
        go_wp2
        go_roundg m
        case measure => have := HM.out; omega
        case rel => exact ⟨m, by have := HM.out; omega, Nat.le_refl _, by go_num, AP.out.trans (HP.out.trans (if_pos hah)), AB4.out⟩
      · have hb : Op.bytesLess x.f0.toList y.f0.toList = false := by rw [toList_data, toList_data]; exact Bool.eq_false_iff.mpr hless
        by_cases heq : y.f0 = x.f0
        · have hbe : (y.f0.toList == x.f0.toList) = true := by rw [heq]; exact beq_self_eq_true _
          by_cases hst : y.f1 > x.f1
          · have hah : aheadE x y = true := by unfold aheadE; rw [if_neg hless, if_pos heq, decide_eq_true hst]
            rw [heq] at r0 hb
            clear heq
            go_wp2
            go_quiet (fail)
            have AB4 := Lib.hid (show Below w1.heap.size w1 (wr.drewN nq) from pw_below_drewN AB.out nq)
            generalize wr.drewN nq = W4 at AB4 ⊢
            clear r0 r1 b0 b1
            go_wp2
            go_roundg m
            case measure => have := HM.out; omega
            case rel => exact ⟨m, by have := HM.out; omega, Nat.le_refl _, by go_num, AP.out.trans (HP.out.trans (if_pos hah)), AB4.out⟩
          · have hah : ¬ aheadE x y = true := by unfold aheadE; rw [if_neg hless, if_pos heq, decide_eq_false hst]; decide
            rw [heq] at r0 hb
            clear heq
            go_wp2
            go_quiet (fail)
            have AB4 := Lib.hid (show Below w1.heap.size w1 (wr.drewN nq) from pw_below_drewN AB.out nq)
            have HPL := Lib.hid (show placeE l0 x l0.length = n from AP.out.trans (HP.out.trans (if_neg hah)))
            generalize wr.drewN nq = W4 at AB4 ⊢
            clear r0 r1 b0 b1
            have hnc : (n : Int) ≤ (c0 : Int) := by omega
            have hnl : (n : Int) ≤ (l0.length : Int) := by omega
            have hnn : n ≤ l0.length := by omega
            have hxb := blk_below X1.out AB4.out
            have x0 : W4.cell? ⟨gb, 0, none⟩ = some (.string x.f0) := (blk_cell hxb 0).trans rfl
            have x1 : W4.cell? ⟨gb, 1, none⟩ = some (.int .i64 x.f1) := (blk_cell hxb 1).trans rfl
            have x2 : W4.cell? ⟨gb, 2, none⟩ = some (.int .i64 x.f2) := (blk_cell hxb 2).trans rfl
            have x3 : W4.cell? ⟨gb, 3, none⟩ = some (.string x.f3) := (blk_cell hxb 3).trans rfl
            clear hxb
            have HCO := Lib.hid (Kd.C_below HR.out (HB1.out.trans (AB4.out.mono HB1.out.size)))
            have HS4 := Lib.hid (Nat.le_trans HB1.out.size AB4.out.size)
            have hK8 : W4.drew.cell? ⟨gb, 0, none⟩ = some (.string x.f0) ∧ W4.drew.cell? ⟨gb, 1, none⟩ = some (.int .i64 x.f1) ∧ W4.drew.cell? ⟨gb, 2, none⟩ = some (.int .i64 x.f2) ∧ W4.drew.cell? ⟨gb, 3, none⟩ = some (.string x.f3) ∧ Below W4.heap.size W4 W4.drew := ⟨x0, x1, x2, x3, below_drew1 (Below.refl _ _)⟩
            go_wp2
            have hX0 := Lib.hid x0
            have hX1 := Lib.hid x1
            have hX2 := Lib.hid x2
            have hX3 := Lib.hid x3
            go_region_held3 (fun w' => w'.cell? ⟨gb, 0, none⟩ = some (.string x.f0) ∧ w'.cell? ⟨gb, 1, none⟩ = some (.int .i64 x.f1) ∧ w'.cell? ⟨gb, 2, none⟩ = some (.int .i64 x.f2) ∧ w'.cell? ⟨gb, 3, none⟩ = some (.string x.f3) ∧ Below W4.heap.size W4 w') ((first | assumption | exact keepE4 hX0.out hX1.out hX2.out hX3.out (by with_reducible repeat (first | assumption | exact Below.refl _ _ | apply below_alloc | apply pw_below_drewN | apply below_drew1))))
              (first
                | (refine Kd.R_append_rows_step k80 (w0 := W4) W4.heap.size (by rfl) (.tmp 45) (.tmp 48) 28 80 (.agg #[.string ⟨#[]⟩, .int .i64 0, .int .i64 0, .string ⟨#[]⟩]) 48 (by rfl) Tryd.underlying28 info80 rfl (by decide) (by decide) _ ([] : List EntT) (l0.take n) _ n c0 (fun _ => True) (fun _ => False) (by rfl) (by rfl) ?aO ?aR (fun _ _ h => h) (fun _ h => h.elim) (fun _ _ => trivial) ?aB ?aS ?aL ?_
                   (case aO => exact R_emptyE (by first | exact Nat.le_refl _ | exact Nat.le_succ _) (by (with_reducible repeat (first | exact blk_new _ _ | exact blk_new1 _ _ _ | refine blk_drew ?_ | refine blk_alloc ?_ _))))
                   (case aR => exact C_takeE (Kd.C_below HCO.out (by with_reducible repeat (first | assumption | exact Below.refl _ _ | apply below_alloc | apply pw_below_drewN | apply below_drew1))) hnn)
                   (case aB => exact (by with_reducible repeat (first | assumption | exact Below.refl _ _ | apply below_alloc | apply pw_below_drewN | apply below_drew1)))
                   (case aS => exact below_size (by with_reducible repeat (first | assumption | exact Below.refl _ _ | apply below_alloc | apply pw_below_drewN | apply below_drew1)))
                   (case aL => simp only [List.length_nil]; have := HBIG.out; omega)
                   intro v1 w1 ho1 hb1 hg1 hat1
                   clear hat1)
                | (refine Kd.R_append_rows_step k80 (w0 := W4) W4.heap.size (by rfl) (.tmp 49) (.tmp 51) 28 80 (.agg #[.string ⟨#[]⟩, .int .i64 0, .int .i64 0, .string ⟨#[]⟩]) 48 (by rfl) Tryd.underlying28 info80 rfl (by decide) (by decide) v1 ([] ++ l0.take n) [x] _ 1 1 (fun _ => True) (fun _ => False) (by rfl) (by rfl) ?aO ?aR (fun _ _ h => h) (fun _ h => h.elim) (fun _ _ => trivial) ?aB ?aS ?aL ?_
                   (case aO => exact (by with_reducible repeat (first | exact ho1 | apply Kd.R_alloc | apply Kd.R_drewN | apply Kd.R_drew)))
                   (case aR => refine C_oneE ?_; first | ((with_reducible repeat (first | exact blk_new _ _ | exact blk_new1 _ _ _ | refine blk_drew ?_ | refine blk_alloc ?_ _)); done) | (refine (grown_at hg1 _ rfl _ (by rw [size_two]; omega) (by first | exact Nat.ne_of_gt (Nat.lt_succ_self _) | exact Nat.ne_of_lt (Nat.lt_succ_self _))).trans ?_; (with_reducible repeat (first | exact blk_new _ _ | exact blk_new1 _ _ _ | refine blk_drew ?_ | refine blk_alloc ?_ _)); done))
                   (case aB => exact (by with_reducible repeat (first | assumption | exact Below.refl _ _ | apply below_alloc | apply pw_below_drewN | apply below_drew1)))
                   (case aS => exact below_size (by with_reducible repeat (first | assumption | exact Below.refl _ _ | apply below_alloc | apply pw_below_drewN | apply below_drew1)))
                   (case aL => rw [List.nil_append, List.length_take]; have := HBIG.out; omega)
                   clear ho1 hg1
                   intro v2 w2 ho2 hb2 hg2 hat2
                   clear hg2 hat2)
                | (refine Kd.R_append_rows_step k80 (w0 := W4) W4.heap.size (by rfl) (.tmp 52) (.tmp 55) 28 80 (.agg #[.string ⟨#[]⟩, .int .i64 0, .int .i64 0, .string ⟨#[]⟩]) 48 (by rfl) Tryd.underlying28 info80 rfl (by decide) (by decide) v2 ([] ++ l0.take n ++ [x]) (l0.drop n) _ (l0.length - n) (c0 - n) (fun _ => True) (fun _ => False) (by rfl) (by rfl) ?aO ?aR (fun _ _ h => h) (fun _ h => h.elim) (fun _ _ => trivial) ?aB ?aS ?aL ?_
                   (case aO => exact (by with_reducible repeat (first | exact ho2 | apply Kd.R_alloc | apply Kd.R_drewN | apply Kd.R_drew)))
                   (case aR => first | exact C_dropE (Kd.C_below HCO.out (by with_reducible repeat (first | assumption | exact Below.refl _ _ | apply below_alloc | apply pw_below_drewN | apply below_drew1))) hnn hc0 | exact Kd.C_below HCO.out (by with_reducible repeat (first | assumption | exact Below.refl _ _ | apply below_alloc | apply pw_below_drewN | apply below_drew1)))
                   (case aB => exact (by with_reducible repeat (first | assumption | exact Below.refl _ _ | apply below_alloc | apply pw_below_drewN | apply below_drew1)))
                   (case aS => exact below_size (by with_reducible repeat (first | assumption | exact Below.refl _ _ | apply below_alloc | apply pw_below_drewN | apply below_drew1)))
                   (case aL => rw [List.nil_append, List.length_append, List.length_take, List.length_singleton]; have := HBIG.out; omega)
                   clear ho2
                   intro v3 w3 ho3 hb3 hg3 hat3
                   clear hg3 hat3))
            all_goals go_wp2
            all_goals (
              have hins : insE l0 x = (l0.take n ++ [x]) ++ l0.drop n := by
                unfold insE
                rw [HPL.out]
              rw [List.nil_append, ← hins] at ho3
              go_ret
              exact ⟨_, rfl, Kd.R_lower ho3 HS4.out, HB1.out.trans ((AB4.out.trans (hb3.mono AB4.out.size)).mono HB1.out.size)⟩)
        · have hbe : (y.f0.toList == x.f0.toList) = false := beq_eq_false_iff_ne.mpr (fun z => heq (YtjibadlbiapcmaaDoorX.toList_inj z))
          have hah : ¬ aheadE x y = true := by unfold aheadE; rw [if_neg hless, if_neg heq]; decide
          go_wp2
          go_quiet (fail)
          have AB4 := Lib.hid (show Below w1.heap.size w1 (wr.drewN nq) from pw_below_drewN AB.out nq)
          have HPL := Lib.hid (show placeE l0 x l0.length = n from AP.out.trans (HP.out.trans (if_neg hah)))
          generalize wr.drewN nq = W4 at AB4 ⊢
          clear r0 r1 b0 b1
          have hnc : (n : Int) ≤ (c0 : Int) := by omega
          have hnl : (n : Int) ≤ (l0.length : Int) := by omega
          have hnn : n ≤ l0.length := by omega
          have hxb := blk_below X1.out AB4.out
          have x0 : W4.cell? ⟨gb, 0, none⟩ = some (.string x.f0) := (blk_cell hxb 0).trans rfl
          have x1 : W4.cell? ⟨gb, 1, none⟩ = some (.int .i64 x.f1) := (blk_cell hxb 1).trans rfl
          have x2 : W4.cell? ⟨gb, 2, none⟩ = some (.int .i64 x.f2) := (blk_cell hxb 2).trans rfl
          have x3 : W4.cell? ⟨gb, 3, none⟩ = some (.string x.f3) := (blk_cell hxb 3).trans rfl
          clear hxb
          have HCO := Lib.hid (Kd.C_below HR.out (HB1.out.trans (AB4.out.mono HB1.out.size)))
          have HS4 := Lib.hid (Nat.le_trans HB1.out.size AB4.out.size)
          have hK8 : W4.drew.cell? ⟨gb, 0, none⟩ = some (.string x.f0) ∧ W4.drew.cell? ⟨gb, 1, none⟩ = some (.int .i64 x.f1) ∧ W4.drew.cell? ⟨gb, 2, none⟩ = some (.int .i64 x.f2) ∧ W4.drew.cell? ⟨gb, 3, none⟩ = some (.string x.f3) ∧ Below W4.heap.size W4 W4.drew := ⟨x0, x1, x2, x3, below_drew1 (Below.refl _ _)⟩
          go_wp2
          have hX0 := Lib.hid x0
          have hX1 := Lib.hid x1
          have hX2 := Lib.hid x2
          have hX3 := Lib.hid x3
          go_region_held3 (fun w' => w'.cell? ⟨gb, 0, none⟩ = some (.string x.f0) ∧ w'.cell? ⟨gb, 1, none⟩ = some (.int .i64 x.f1) ∧ w'.cell? ⟨gb, 2, none⟩ = some (.int .i64 x.f2) ∧ w'.cell? ⟨gb, 3, none⟩ = some (.string x.f3) ∧ Below W4.heap.size W4 w') ((first | assumption | exact keepE4 hX0.out hX1.out hX2.out hX3.out (by with_reducible repeat (first | assumption | exact Below.refl _ _ | apply below_alloc | apply pw_below_drewN | apply below_drew1))))
            (first
              | (refine Kd.R_append_rows_step k80 (w0 := W4) W4.heap.size (by rfl) (.tmp 45) (.tmp 48) 28 80 (.agg #[.string ⟨#[]⟩, .int .i64 0, .int .i64 0, .string ⟨#[]⟩]) 48 (by rfl) Tryd.underlying28 info80 rfl (by decide) (by decide) _ ([] : List EntT) (l0.take n) _ n c0 (fun _ => True) (fun _ => False) (by rfl) (by rfl) ?aO ?aR (fun _ _ h => h) (fun _ h => h.elim) (fun _ _ => trivial) ?aB ?aS ?aL ?_
                 (case aO => exact R_emptyE (by first | exact Nat.le_refl _ | exact Nat.le_succ _) (by (with_reducible repeat (first | exact blk_new _ _ | exact blk_new1 _ _ _ | refine blk_drew ?_ | refine blk_alloc ?_ _))))
                 (case aR => exact C_takeE (Kd.C_below HCO.out (by with_reducible repeat (first | assumption | exact Below.refl _ _ | apply below_alloc | apply pw_below_drewN | apply below_drew1))) hnn)
                 (case aB => exact (by with_reducible repeat (first | assumption | exact Below.refl _ _ | apply below_alloc | apply pw_below_drewN | apply below_drew1)))
                 (case aS => exact below_size (by with_reducible repeat (first | assumption | exact Below.refl _ _ | apply below_alloc | apply pw_below_drewN | apply below_drew1)))
                 (case aL => simp only [List.length_nil]; have := HBIG.out; omega)
                 intro v1 w1 ho1 hb1 hg1 hat1
                 clear hat1)
              | (refine Kd.R_append_rows_step k80 (w0 := W4) W4.heap.size (by rfl) (.tmp 49) (.tmp 51) 28 80 (.agg #[.string ⟨#[]⟩, .int .i64 0, .int .i64 0, .string ⟨#[]⟩]) 48 (by rfl) Tryd.underlying28 info80 rfl (by decide) (by decide) v1 ([] ++ l0.take n) [x] _ 1 1 (fun _ => True) (fun _ => False) (by rfl) (by rfl) ?aO ?aR (fun _ _ h => h) (fun _ h => h.elim) (fun _ _ => trivial) ?aB ?aS ?aL ?_
                 (case aO => exact (by with_reducible repeat (first | exact ho1 | apply Kd.R_alloc | apply Kd.R_drewN | apply Kd.R_drew)))
                 (case aR => refine C_oneE ?_; first | ((with_reducible repeat (first | exact blk_new _ _ | exact blk_new1 _ _ _ | refine blk_drew ?_ | refine blk_alloc ?_ _)); done) | (refine (grown_at hg1 _ rfl _ (by rw [size_two]; omega) (by first | exact Nat.ne_of_gt (Nat.lt_succ_self _) | exact Nat.ne_of_lt (Nat.lt_succ_self _))).trans ?_; (with_reducible repeat (first | exact blk_new _ _ | exact blk_new1 _ _ _ | refine blk_drew ?_ | refine blk_alloc ?_ _)); done))
                 (case aB => exact (by with_reducible repeat (first | assumption | exact Below.refl _ _ | apply below_alloc | apply pw_below_drewN | apply below_drew1)))
                 (case aS => exact below_size (by with_reducible repeat (first | assumption | exact Below.refl _ _ | apply below_alloc | apply pw_below_drewN | apply below_drew1)))
                 (case aL => rw [List.nil_append, List.length_take]; have := HBIG.out; omega)
                 clear ho1 hg1
                 intro v2 w2 ho2 hb2 hg2 hat2
                 clear hg2 hat2)
              | (refine Kd.R_append_rows_step k80 (w0 := W4) W4.heap.size (by rfl) (.tmp 52) (.tmp 55) 28 80 (.agg #[.string ⟨#[]⟩, .int .i64 0, .int .i64 0, .string ⟨#[]⟩]) 48 (by rfl) Tryd.underlying28 info80 rfl (by decide) (by decide) v2 ([] ++ l0.take n ++ [x]) (l0.drop n) _ (l0.length - n) (c0 - n) (fun _ => True) (fun _ => False) (by rfl) (by rfl) ?aO ?aR (fun _ _ h => h) (fun _ h => h.elim) (fun _ _ => trivial) ?aB ?aS ?aL ?_
                 (case aO => exact (by with_reducible repeat (first | exact ho2 | apply Kd.R_alloc | apply Kd.R_drewN | apply Kd.R_drew)))
                 (case aR => first | exact C_dropE (Kd.C_below HCO.out (by with_reducible repeat (first | assumption | exact Below.refl _ _ | apply below_alloc | apply pw_below_drewN | apply below_drew1))) hnn hc0 | exact Kd.C_below HCO.out (by with_reducible repeat (first | assumption | exact Below.refl _ _ | apply below_alloc | apply pw_below_drewN | apply below_drew1)))
                 (case aB => exact (by with_reducible repeat (first | assumption | exact Below.refl _ _ | apply below_alloc | apply pw_below_drewN | apply below_drew1)))
                 (case aS => exact below_size (by with_reducible repeat (first | assumption | exact Below.refl _ _ | apply below_alloc | apply pw_below_drewN | apply below_drew1)))
                 (case aL => rw [List.nil_append, List.length_append, List.length_take, List.length_singleton]; have := HBIG.out; omega)
                 clear ho2
                 intro v3 w3 ho3 hb3 hg3 hat3
                 clear hg3 hat3))
          all_goals go_wp2
          all_goals (
            have hins : insE l0 x = (l0.take n ++ [x]) ++ l0.drop n := by
              unfold insE
              rw [HPL.out]
            rw [List.nil_append, ← hins] at ho3
            go_ret
            exact ⟨_, rfl, Kd.R_lower ho3 HS4.out, HB1.out.trans ((AB4.out.trans (hb3.mono AB4.out.size)).mono HB1.out.size)⟩)
    · have hn0 : n = 0 := by omega
      subst hn0
      go_wp2
      go_quiet (fail)
      have AB4 := Lib.hid (show Below w1.heap.size w1 (wr.drewN nq) from pw_below_drewN AB.out nq)
      have HPL := Lib.hid (show placeE l0 x l0.length = 0 from AP.out)
      generalize wr.drewN nq = W4 at AB4 ⊢
      have hnc : (0 : Int) ≤ (c0 : Int) := by omega
      have hnl : (0 : Int) ≤ (l0.length : Int) := by omega
      have hnn : 0 ≤ l0.length := by omega
      have hxb := blk_below X1.out AB4.out
      have x0 : W4.cell? ⟨gb, 0, none⟩ = some (.string x.f0) := (blk_cell hxb 0).trans rfl
      have x1 : W4.cell? ⟨gb, 1, none⟩ = some (.int .i64 x.f1) := (blk_cell hxb 1).trans rfl
      have x2 : W4.cell? ⟨gb, 2, none⟩ = some (.int .i64 x.f2) := (blk_cell hxb 2).trans rfl
      have x3 : W4.cell? ⟨gb, 3, none⟩ = some (.string x.f3) := (blk_cell hxb 3).trans rfl
      clear hxb
      have HCO := Lib.hid (Kd.C_below HR.out (HB1.out.trans (AB4.out.mono HB1.out.size)))
      have HS4 := Lib.hid (Nat.le_trans HB1.out.size AB4.out.size)
      have hK8 : W4.drew.cell? ⟨gb, 0, none⟩ = some (.string x.f0) ∧ W4.drew.cell? ⟨gb, 1, none⟩ = some (.int .i64 x.f1) ∧ W4.drew.cell? ⟨gb, 2, none⟩ = some (.int .i64 x.f2) ∧ W4.drew.cell? ⟨gb, 3, none⟩ = some (.string x.f3) ∧ Below W4.heap.size W4 W4.drew := ⟨x0, x1, x2, x3, below_drew1 (Below.refl _ _)⟩
      go_wp2
      have hX0 := Lib.hid x0
      have hX1 := Lib.hid x1
      have hX2 := Lib.hid x2
      have hX3 := Lib.hid x3
      go_region_held3 (fun w' => w'.cell? ⟨gb, 0, none⟩ = some (.string x.f0) ∧ w'.cell? ⟨gb, 1, none⟩ = some (.int .i64 x.f1) ∧ w'.cell? ⟨gb, 2, none⟩ = some (.int .i64 x.f2) ∧ w'.cell? ⟨gb, 3, none⟩ = some (.string x.f3) ∧ Below W4.heap.size W4 w') ((first | assumption | exact keepE4 hX0.out hX1.out hX2.out hX3.out (by with_reducible repeat (first | assumption | exact Below.refl _ _ | apply below_alloc | apply pw_below_drewN | apply below_drew1))))
        (first
          | (refine Kd.R_append_rows_step k80 (w0 := W4) W4.heap.size (by rfl) (.tmp 45) (.tmp 48) 28 80 (.agg #[.string ⟨#[]⟩, .int .i64 0, .int .i64 0, .string ⟨#[]⟩]) 48 (by rfl) Tryd.underlying28 info80 rfl (by decide) (by decide) _ ([] : List EntT) (l0.take 0) _ 0 c0 (fun _ => True) (fun _ => False) (by rfl) (by rfl) ?aO ?aR (fun _ _ h => h) (fun _ h => h.elim) (fun _ _ => trivial) ?aB ?aS ?aL ?_
             (case aO => exact R_emptyE (by first | exact Nat.le_refl _ | exact Nat.le_succ _) (by (with_reducible repeat (first | exact blk_new _ _ | exact blk_new1 _ _ _ | refine blk_drew ?_ | refine blk_alloc ?_ _))))
             (case aR => exact C_takeE (Kd.C_below HCO.out (by with_reducible repeat (first | assumption | exact Below.refl _ _ | apply below_alloc | apply pw_below_drewN | apply below_drew1))) hnn)
             (case aB => exact (by with_reducible repeat (first | assumption | exact Below.refl _ _ | apply below_alloc | apply pw_below_drewN | apply below_drew1)))
             (case aS => exact below_size (by with_reducible repeat (first | assumption | exact Below.refl _ _ | apply below_alloc | apply pw_below_drewN | apply below_drew1)))
             (case aL => simp only [List.length_nil]; have := HBIG.out; omega)
             intro v1 w1 ho1 hb1 hg1 hat1
             clear hat1)
          | (refine Kd.R_append_rows_step k80 (w0 := W4) W4.heap.size (by rfl) (.tmp 49) (.tmp 51) 28 80 (.agg #[.string ⟨#[]⟩, .int .i64 0, .int .i64 0, .string ⟨#[]⟩]) 48 (by rfl) Tryd.underlying28 info80 rfl (by decide) (by decide) v1 ([] ++ l0.take 0) [x] _ 1 1 (fun _ => True) (fun _ => False) (by rfl) (by rfl) ?aO ?aR (fun _ _ h => h) (fun _ h => h.elim) (fun _ _ => trivial) ?aB ?aS ?aL ?_
             (case aO => exact (by with_reducible repeat (first | exact ho1 | apply Kd.R_alloc | apply Kd.R_drewN | apply Kd.R_drew)))
             (case aR => refine C_oneE ?_; first | ((with_reducible repeat (first | exact blk_new _ _ | exact blk_new1 _ _ _ | refine blk_drew ?_ | refine blk_alloc ?_ _)); done) | (refine (grown_at hg1 _ rfl _ (by rw [size_two]; omega) (by first | exact Nat.ne_of_gt (Nat.lt_succ_self _) | exact Nat.ne_of_lt (Nat.lt_succ_self _))).trans ?_; (with_reducible repeat (first | exact blk_new _ _ | exact blk_new1 _ _ _ | refine blk_drew ?_ | refine blk_alloc ?_ _)); done))
             (case aB => exact (by with_reducible repeat (first | assumption | exact Below.refl _ _ | apply below_alloc | apply pw_below_drewN | apply below_drew1)))
             (case aS => exact below_size (by with_reducible repeat (first | assumption | exact Below.refl _ _ | apply below_alloc | apply pw_below_drewN | apply below_drew1)))
             (case aL => rw [List.nil_append, List.length_take]; have := HBIG.out; omega)
             clear ho1 hg1
             intro v2 w2 ho2 hb2 hg2 hat2
             clear hg2 hat2)
          | (refine Kd.R_append_rows_step k80 (w0 := W4) W4.heap.size (by rfl) (.tmp 52) (.tmp 55) 28 80 (.agg #[.string ⟨#[]⟩, .int .i64 0, .int .i64 0, .string ⟨#[]⟩]) 48 (by rfl) Tryd.underlying28 info80 rfl (by decide) (by decide) v2 ([] ++ l0.take 0 ++ [x]) (l0.drop 0) _ (l0.length - 0) (c0 - 0) (fun _ => True) (fun _ => False) (by rfl) (by rfl) ?aO ?aR (fun _ _ h => h) (fun _ h => h.elim) (fun _ _ => trivial) ?aB ?aS ?aL ?_
             (case aO => exact (by with_reducible repeat (first | exact ho2 | apply Kd.R_alloc | apply Kd.R_drewN | apply Kd.R_drew)))
             (case aR => first | exact C_dropE (Kd.C_below HCO.out (by with_reducible repeat (first | assumption | exact Below.refl _ _ | apply below_alloc | apply pw_below_drewN | apply below_drew1))) hnn hc0 | exact Kd.C_below HCO.out (by with_reducible repeat (first | assumption | exact Below.refl _ _ | apply below_alloc | apply pw_below_drewN | apply below_drew1)))
             (case aB => exact (by with_reducible repeat (first | assumption | exact Below.refl _ _ | apply below_alloc | apply pw_below_drewN | apply below_drew1)))
             (case aS => exact below_size (by with_reducible repeat (first | assumption | exact Below.refl _ _ | apply below_alloc | apply pw_below_drewN | apply below_drew1)))
             (case aL => rw [List.nil_append, List.length_append, List.length_take, List.length_singleton]; have := HBIG.out; omega)
             clear ho2
             intro v3 w3 ho3 hb3 hg3 hat3
             clear hg3 hat3))
      all_goals go_wp2
      all_goals (
        have hins : insE l0 x = (l0.take 0 ++ [x]) ++ l0.drop 0 := by
          unfold insE
          rw [HPL.out]
        rw [List.nil_append, ← hins] at ho3
        go_ret
        exact ⟨_, rfl, Kd.R_lower ho3 HS4.out, HB1.out.trans ((AB4.out.trans (hb3.mono AB4.out.size)).mono HB1.out.size)⟩)
end Go.Proofs.YtjibadlbiapcmaaDoor.PX.X

namespace Go.Proofs.YtjibadlbiapcmaaDoor.PX
open Go.RowKit Go.Proofs.YtjibadlbiapcmaaDoorW.PrintWords Go.Proofs.YtjibadlbiapcmaaDoorW.PrintLast Go.Proofs.YtjibadlbiapcmaaDoorW.PrintMore
attribute [local go_sem] max2_int min2_int max_two min_two max_three min_three max_four min_four   -- for this text's walks alone
set_option linter.unusedVariables false
set_option linter.unusedSimpArgs false

/-! ### spec_l10Put: function 138 -/
def spec_l10Put.f (l0 : List S80) (a1_0 : ByteArray) (a1_1 a1_2 : Int) (a1_3 : ByteArray) : Option (List S80) := if l0.length ≤ 1048576 then some (X.insE l0 ⟨a1_0, a1_1, a1_2, a1_3⟩) else none
theorem spec_l10Put.calls (A0 : Option Addr) (c0 : Nat) (l0 : List S80) (a1_0 : ByteArray) (a1_1 a1_2 : Int) (a1_3 : ByteArray) (r : List S80) (w : World) (hr0 : Kd.C k80 w A0 l0.length l0) (hc0 : l0.length ≤ c0) (h : spec_l10Put.f l0 a1_0 a1_1 a1_2 a1_3 = some r) :
  Calls Tryd.prog 138 #[.slice A0 l0.length c0, .agg #[.string a1_0, .int .i64 a1_1, .int .i64 a1_2, .string a1_3]] w fun e w' => ∃ v0_ : Value, e = .returned (v0_) ∧ Kd.R k80 80 w' w.heap.size (fun _ => True) v0_ r ∧ Below w.heap.size w w' := by
 unfold spec_l10Put.f at h
 by_cases h1 : l0.length ≤ 1048576
 ·
  rw [if_pos h1] at h
  obtain rfl := Option.some.inj h
  exact X.l10Put_calls A0 c0 l0 ⟨a1_0, a1_1, a1_2, a1_3⟩ w hr0 hc0 h1
 ·
  rw [if_neg h1] at h
  cases h


/-! ### spec_l10Resolve: function 91 -/
def spec_l10Resolve.l0 : Nat → List (S80) → ByteArray → Int → ByteArray → List (S80) → Int → Option ((List (S80)))
 | 0, _, _, _, _, _, _ => none
 | k + 1, x0, x1, x2, x3, x9, x10 => if x10 < (x0.length : Int) then (if 0 ≤ x10 then (if ((rd_T80 x0 x10).f0).toList = x1.toList then (spec_l10Resolve.l0 k x0 x1 x2 x3 x9 (wrap64 (x10 + 1))) else (if x9.length < 2932031007402 then (spec_l10Resolve.l0 k x0 x1 x2 x3 (x9 ++ [(⟨(rd_T80 x0 x10).f0, (rd_T80 x0 x10).f1, (rd_T80 x0 x10).f2, (rd_T80 x0 x10).f3⟩ : S80)]) (wrap64 (x10 + 1))) else (none))) else (none)) else (if x2 = 0 then (some x9) else ((spec_l10Put.f x9 x1 0 x2 x3).bind fun t631 => (some t631)))
def spec_l10Resolve.f (k : Nat) (l0 : List (S80)) (a1 : ByteArray) (a2 : Int) (a3 : ByteArray) : Option ((List (S80))) := spec_l10Resolve.l0 k l0 a1 a2 a3 (([] : List (S80))) 0
theorem spec_l10Resolve.mono_l : ∀ k, (∀ y0 y1 y2 y3 y4 y5, LeO (spec_l10Resolve.l0 k y0 y1 y2 y3 y4 y5) (spec_l10Resolve.l0 (k + 1) y0 y1 y2 y3 y4 y5))
 | 0 => fun _ _ _ _ _ _ r h => by simp [spec_l10Resolve.l0] at h
 | k + 1 => by
  have ih0 := spec_l10Resolve.mono_l k
  ·
   intro y0 y1 y2 y3 y4 y5
   unfold spec_l10Resolve.l0
   repeat' first
   | (with_reducible exact ih0 _ _ _ _ _ _)
   | (with_reducible exact LeO.refl _)
   | (with_reducible exact LeO.none _)
   | (with_reducible refine LeO.ite ?_ ?_)
   | (with_reducible refine LeO.bind ?_ (fun _ => ?_))
   | exact ih0 _ _ _ _ _ _
   | exact LeO.none _
   | refine LeO.ite ?_ ?_
   | refine LeO.bind ?_ (fun _ => ?_)
theorem spec_l10Resolve.mono : ∀ a0 a1 a2 a3 k, LeO (spec_l10Resolve.f k a0 a1 a2 a3) (spec_l10Resolve.f (k + 1) a0 a1 a2 a3) := by
 intro a0 a1 a2 a3 k
 have ih0 := spec_l10Resolve.mono_l k
 unfold spec_l10Resolve.f
 repeat' first
   | (with_reducible exact ih0 _ _ _ _ _ _)
   | (with_reducible exact LeO.refl _)
   | (with_reducible exact LeO.none _)
   | (with_reducible refine LeO.ite ?_ ?_)
   | (with_reducible refine LeO.bind ?_ (fun _ => ?_))
   | exact ih0 _ _ _ _ _ _
   | exact LeO.none _
   | refine LeO.ite ?_ ?_
   | refine LeO.bind ?_ (fun _ => ?_)
set_option maxHeartbeats 8000000 in
set_option maxRecDepth 100000 in
theorem spec_l10Resolve.calls (k : Nat) (A0 : Option Addr) (c0 : Nat) (l0 : List (S80)) (a1 : ByteArray) (a2 : Int) (a3 : ByteArray) (r : List (S80)) (w : World) (hr0 : Kd.C k80 w A0 l0.length l0) (hc0 : l0.length ≤ c0) (h : spec_l10Resolve.f k l0 a1 a2 a3 = some r) :
  Calls Tryd.prog 91 #[.slice A0 l0.length c0, .string a1, .int .i64 a2, .string a3] w fun e w' => ∃ v0_ : Value, e = .returned (v0_) ∧ Kd.R k80 80 w' w.heap.size (fun _ => True) v0_ r ∧ Below w.heap.size w w' := by
 have hu80 := Tryd.underlying80
 have HR0 := zK hr0
 have HC0 := zK hc0
 clear hr0 hc0
 have HB := zK (Below.refl w.heap.size w)
 have H : (spec_l10Resolve.l0 k l0 a1 a2 a3 (([] : List (S80))) 0) = some r := h
 clear h
 obtain ⟨y623, hy623⟩ : ∃ y_ : List (S80), y_ = (([] : List (S80))) := ⟨_, rfl⟩
 replace H : (spec_l10Resolve.l0 k l0 a1 a2 a3 y623 0) = some r := by first | (rw [hy623]; with_reducible exact H) | (have H2_ := (Option.bind_some _ _).symm.trans H; rw [hy623]; with_reducible exact H2_) | (have H2_ := (Option.bind_some _ _).symm.trans H; with_reducible exact H2_) | with_reducible exact H | (rw [hy623]; exact H) | exact H
 have Ny623 := zK hy623
 clear hy623
 have H' := zK H
 clear H
 go_enter Tryd.func91, Tryd.ntmps91
 go_wp2_with (first | ((with_reducible refine gate_dst (N := 11) rfl ?_); refine Kd.R_lit k80 _ 80 ?hg (N := 11) ?hd (xs := ([] : List (S80))) (inner := []) (ok := fun _ => True) (okp := fun _ => True) ?hr ?hp (fun _ hk => hk) trivial (Below.refl _ _) (Nat.le_refl _) (by simp) ?_; (case hd => rfl); (case hg => rfl); (case hr => first | (go_simp; done) | (go_simp; rfl)); (case hp => exact (Reps.none _ _)); intro v624 w5 ho6 hb hg_ hnew_; clear hg_ hnew_; (first | rw [← Ny623.out] at ho6 | (simp only [Int.reduceToNat] at ho6; rw [← Ny623.out] at ho6)); have n0_ := zK (Kd.R_lower ho6 (below_size (by repeat (first | (with_reducible first | exact HB.out | apply zA | apply zN | apply zD) | exact HB.out)))); have n1_ := zK (below_step (by repeat (first | (with_reducible first | exact HB.out | apply zA | apply zN | apply zD) | exact HB.out)) hb); clear HB; have HO625 := n0_; have HB := n1_; clear n0_ n1_; clear hb ho6))
 go_loopg [9, 10] k (fun kq v9 v10 w' => ∃ (x9_1 : List (S80)) (x10_1 : Int), v10 = .int .i64 x10_1 ∧ Aside0 (spec_l10Resolve.l0 kq l0 a1 a2 a3 x9_1 x10_1 = some r) ∧ Aside0 (kq ≤ k) ∧ Aside0 (Kd.R k80 80 w' w.heap.size (fun _ => True) v9 x9_1) ∧ Aside0 (Below w.heap.size w w'))
 case atStart => exact ⟨(y623), (0), (by first | rfl | (simp; done) | (simp [*]; done)), H', ⟨Nat.le_refl _⟩, ⟨by (with_reducible repeat (first | apply zR | apply zV | apply zW)); exact HO625.out⟩, ⟨by repeat (first | (with_reducible first | exact HB.out | apply zA | apply zN | apply zD) | exact HB.out)⟩⟩
 case round =>
  clear H'
  try clear p2
  obtain ⟨x9_1, x10_1, rfl, HA, HK1, HO_9, HB⟩ := hrel
  cases gk with
  | zero => exact absurd HA.out (by simp [spec_l10Resolve.l0])
  | succ k1 =>
   have H := HA.out
   clear HA
   simp only [spec_l10Resolve.l0] at H
   by_cases c7 : x10_1 < (l0.length : Int)
   ·
    rw [if_pos c7] at H
    have c7b0 : decide (x10_1 < (l0.length : Int)) = true := decide_eq_true c7
    clear c7
    by_cases c8 : 0 ≤ x10_1
    ·
     rw [if_pos c8] at H
     have c8b0 : decide (0 ≤ x10_1) = true := decide_eq_true c8
     clear c8
     by_cases c9 : ((rd_T80 l0 x10_1).f0).toList = a1.toList
     ·
      rw [if_pos c9] at H
      have c9b0 : (((rd_T80 l0 x10_1).f0).toList == a1.toList) = true := beq_iff_eq.mpr c9
      have c9b1 : (((rd_T80 l0 x10_1).f0).toList != a1.toList) = false := bne_eq_false_iff_eq.mpr c9
      clear c9
      have H' := zK H
      clear H
      have p626 : 0 ≤ (x10_1 : Int) := zX (by first | (with_reducible assumption) | assumption)
      have q626 : x10_1 < (l0.length : Int) := zX (by first | (with_reducible assumption) | assumption)
      obtain ⟨ad626, e626, hx626_0, hx626_1, hx626_2, hx626_3⟩ := at_T80 HR0.out x10_1 p626 q626
      cases e626
      replace hx626_0 := (HB.out.cell (zL w _ hx626_0)).trans hx626_0
      replace hx626_1 := (HB.out.cell (zL w _ hx626_1)).trans hx626_1
      replace hx626_2 := (HB.out.cell (zL w _ hx626_2)).trans hx626_2
      replace hx626_3 := (HB.out.cell (zL w _ hx626_3)).trans hx626_3
      replace p626 := eq_true p626
      replace q626 := eq_true q626
      go_wp2
      go_roundg k1
      case measure => have := HK1.out; omega
      case rel => exact ⟨(x9_1), (wrap64 (x10_1 + 1)), (by first | rfl | (simp; done) | (simp [*]; done)), H', ⟨by have := HK1.out; omega⟩, ⟨by (with_reducible repeat (first | apply zR | apply zV | apply zW)); exact HO_9.out⟩, ⟨by repeat (first | (with_reducible first | exact HB.out | apply zA | apply zN | apply zD) | exact HB.out)⟩⟩
     ·
      rw [if_neg c9] at H
      have c9b0 : (((rd_T80 l0 x10_1).f0).toList == a1.toList) = false := beq_eq_false_iff_ne.mpr c9
      have c9b1 : (((rd_T80 l0 x10_1).f0).toList != a1.toList) = true := bne_iff_ne.mpr c9
      by_cases c10 : x9_1.length < 2932031007402
      ·
       rw [if_pos c10] at H
       have LMc10 := zK c10
       clear c10
       obtain ⟨y628, hy628⟩ : ∃ y_ : List (S80), y_ = (x9_1 ++ [(⟨(rd_T80 l0 x10_1).f0, (rd_T80 l0 x10_1).f1, (rd_T80 l0 x10_1).f2, (rd_T80 l0 x10_1).f3⟩ : S80)]) := ⟨_, rfl⟩
       replace H : (spec_l10Resolve.l0 k1 l0 a1 a2 a3 y628 (wrap64 (x10_1 + 1))) = some r := by first | (rw [hy628]; with_reducible exact H) | (have H2_ := (Option.bind_some _ _).symm.trans H; rw [hy628]; with_reducible exact H2_) | (have H2_ := (Option.bind_some _ _).symm.trans H; with_reducible exact H2_) | with_reducible exact H | (rw [hy628]; exact H) | exact H
       have Ny628 := zK hy628
       clear hy628
       have H' := zK H
       clear H
       have p626 : 0 ≤ (x10_1 : Int) := zX (by first | (with_reducible assumption) | assumption)
       have q626 : x10_1 < (l0.length : Int) := zX (by first | (with_reducible assumption) | assumption)
       obtain ⟨ad626, e626, hx626_0, hx626_1, hx626_2, hx626_3⟩ := at_T80 HR0.out x10_1 p626 q626
       cases e626
       replace hx626_0 := (HB.out.cell (zL w _ hx626_0)).trans hx626_0
       replace hx626_1 := (HB.out.cell (zL w _ hx626_1)).trans hx626_1
       replace hx626_2 := (HB.out.cell (zL w _ hx626_2)).trans hx626_2
       replace hx626_3 := (HB.out.cell (zL w _ hx626_3)).trans hx626_3
       replace p626 := eq_true p626
       replace q626 := eq_true q626
       have p627 : 0 ≤ (x10_1 : Int) := zX (by first | (with_reducible assumption) | assumption)
       have q627 : x10_1 < (l0.length : Int) := zX (by first | (with_reducible assumption) | assumption)
       obtain ⟨ad627, e627, hx627_0, hx627_1, hx627_2, hx627_3⟩ := at_T80 HR0.out x10_1 p627 q627
       obtain rfl : ad626 = ad627 := (by injection e627)
       replace hx627_0 := (HB.out.cell (zL w _ hx627_0)).trans hx627_0
       replace hx627_1 := (HB.out.cell (zL w _ hx627_1)).trans hx627_1
       replace hx627_2 := (HB.out.cell (zL w _ hx627_2)).trans hx627_2
       replace hx627_3 := (HB.out.cell (zL w _ hx627_3)).trans hx627_3
       replace p627 := eq_true p627
       replace q627 := eq_true q627
       go_wp2_with (first | ((with_reducible refine gate_builtin (b := .append) (xs := #[.tmp 25, .tmp 30]) rfl ?_); at_builtin; refine Kd.R_append k80 (w0 := w) w.heap.size rfl (.tmp 25) (.tmp 30) 28 80 (.agg #[(.string ⟨#[]⟩), (.int .i64 0), (.int .i64 0), (.string ⟨#[]⟩)]) 48 rfl Tryd.underlying28 info80 rfl (by decide) (by omega) u9 x9_1 (⟨(rd_T80 l0 x10_1).f0, (rd_T80 l0 x10_1).f1, (rd_T80 l0 x10_1).f2, (rd_T80 l0 x10_1).f3⟩ : S80) [.string ((rd_T80 l0 x10_1).f0), .int .i64 ((rd_T80 l0 x10_1).f1), .int .i64 ((rd_T80 l0 x10_1).f2), .string ((rd_T80 l0 x10_1).f3)] (fun _ => True) (fun _ => False) rfl rfl ?aP (fun _ hk => hk.elim) ?aF ?aO ?aB ?aS ?aL ?_; (case aP => exact k80_mkM _ _ _ (⟨(rd_T80 l0 x10_1).f0, (rd_T80 l0 x10_1).f1, (rd_T80 l0 x10_1).f2, (rd_T80 l0 x10_1).f3⟩ : S80)); (case aB => exact (by repeat (first | (with_reducible first | exact HB.out | apply zA | apply zN | apply zD) | exact HB.out))); (case aF => exact (fun _ _ => trivial)); (case aO => exact (by (with_reducible repeat (first | apply zR | apply zV | apply zW)); exact HO_9.out)); (case aS => exact (below_size (by repeat (first | (with_reducible first | exact HB.out | apply zA | apply zN | apply zD) | exact HB.out)))); (case aL => have := LMc10.out; omega); intro v629 w11 ho hb hg hat; rw [← Ny628.out] at ho; have n0_ := zK (hb); have n1_ := zK (ho); clear HB; clear HO_9; have HB := n0_; have HO630 := n1_; clear n0_ n1_; clear ho hb hg hat))
       go_roundg k1
       case measure => have := HK1.out; omega
       case rel => exact ⟨(y628), (wrap64 (x10_1 + 1)), (by first | rfl | (simp; done) | (simp [*]; done)), H', ⟨by have := HK1.out; omega⟩, ⟨by (with_reducible repeat (first | apply zR | apply zV | apply zW)); exact HO630.out⟩, ⟨by repeat (first | (with_reducible first | exact HB.out | apply zA | apply zN | apply zD) | exact HB.out)⟩⟩
      ·
       rw [if_neg c10] at H
       exact absurd H (by simp)
    ·
     rw [if_neg c8] at H
     exact absurd H (by simp)
   ·
    rw [if_neg c7] at H
    have c7b0 : decide (x10_1 < (l0.length : Int)) = false := decide_eq_false c7
    clear c7
    by_cases c12 : a2 = 0
    ·
     rw [if_pos c12] at H
     have c12b0 : (a2 == 0) = true := beq_iff_eq.mpr c12
     have c12b1 : (a2 != 0) = false := bne_eq_false_iff_eq.mpr c12
     clear c12
     obtain rfl := Option.some.inj H
     go_wp2
     go_ret
     exact ⟨_, by first | rfl | (simp [errW_none, errW_some] <;> rfl) | (simp [*, errW_none, errW_some] <;> rfl), by (with_reducible repeat (first | apply zR | apply zV | apply zW)); exact HO_9.out, by repeat (first | (with_reducible first | exact HB.out | apply zA | apply zN | apply zD) | exact HB.out)⟩
    ·
     rw [if_neg c12] at H
     have c12b0 : (a2 == 0) = false := beq_eq_false_iff_ne.mpr c12
     have c12b1 : (a2 != 0) = true := bne_iff_ne.mpr c12
     replace H := Option.bind_eq_some_iff.mp H
     obtain ⟨t631, A130, H⟩ := H
     replace H : (some t631) = some r := H
     have A13 := zK A130
     clear A130
     obtain rfl := Option.some.inj H
     obtain ⟨Ao14, co14, eo14⟩ := Kd.R_slice HO_9.out
     subst eo14
     go_wp2_with (first | ((with_reducible refine gate_callee (f := 138) rfl ?_); refine goesL_ (some 40) rfl rfl Tryd.func138 (by kernel_rfl) rfl #[.slice Ao14 x9_1.length co14, .agg #[.string a1, .int .i64 0, .int .i64 a2, .string a3]] rfl (by (try simp only [List.map_toArray, List.map_cons, List.map_nil]); first | done | rfl | (simp only [List.length_drop, List.length_take]; rfl)) ?_; (with_reducible refine (spec_l10Put.calls _ _ x9_1 a1 0 a2 a3 t631 _ ?side1 ?side2 A13.out).mono ?_); (case side1 => repeat (first | exact (Kd.R_reads' HO_9.out).2.2 | (with_reducible refine Kd.C_alloc ?_ _) | (with_reducible refine Kd.C_drewN ?_ _) | (with_reducible refine Kd.C_drew ?_))); (case side2 => exact (Kd.R_reads' HO_9.out).2.1); rintro e w15 ⟨v632, rfl, ho0, hb⟩; refine ⟨_, rfl, ?_⟩; have n0_ := zK (Kd.R_elder' (by (with_reducible repeat (first | apply zR | apply zV | apply zW)); exact HO_9.out) (Kd.R_base ho0) hb); have n1_ := zK (Kd.R_lower (Kd.R_new' ho0 (Kd.R_lt (by (with_reducible repeat (first | apply zR | apply zV | apply zW)); exact HO_9.out))) (below_size (by repeat (first | (with_reducible first | exact HB.out | apply zA | apply zN | apply zD) | exact HB.out)))); have n2_ := zK (below_step (by repeat (first | (with_reducible first | exact HB.out | apply zA | apply zN | apply zD) | exact HB.out)) hb); clear HO_9; clear HB; have HO_9 := n0_; have HO633 := n1_; have HB := n2_; clear n0_ n1_ n2_; (try clear hb); (try clear hb2); (try clear hk); (try clear hi); (try clear ho0)))
     go_ret
     exact ⟨_, by first | rfl | (simp [errW_none, errW_some] <;> rfl) | (simp [*, errW_none, errW_some] <;> rfl), by (with_reducible repeat (first | apply zR | apply zV | apply zW)); exact Kd.R_mono HO633.out (fun _ hk => trivial), by repeat (first | (with_reducible first | exact HB.out | apply zA | apply zN | apply zD) | exact HB.out)⟩


/-! ### spec_ResolvePath: function 40 -/
def spec_ResolvePath.j0 : Nat → List (S80) → ByteArray → Int → ByteArray → Bool → Option (Int × Int × (List (S80)))
 | 0, _, _, _, _, _ => none
 | k + 1, x0, x1, x2, x3, x28 => if x28 = true then (some (3, 0, ([] : List (S80)))) else (if x2 = 0 then (if x3.toList = ([] : List UInt8) then ((spec_l10Resolve.f k x0 x1 x2 x3).bind fun t641 => (some (0, 0, t641))) else (some (1, 0, ([] : List (S80))))) else ((spec_l6Is.f k x3 1).bind fun t644 => (if t644 = true then ((spec_l10Resolve.f k x0 x1 x2 x3).bind fun t645 => (some (0, 0, t645))) else (some (1, 0, ([] : List (S80)))))))
def spec_ResolvePath.f (k : Nat) (l0 : List (S80)) (a1 : ByteArray) (a2 : Int) (a3 : ByteArray) : Option (Int × Int × (List (S80))) := (spec_IndexFault.f k l0).bind fun t635 => (if t635 = 0 then ((spec_l10Clashes.f l0).bind fun t636 => ((spec_l9Has.f k t636 a1).bind fun t639 => (if t639 = true then (if a2 = 0 then (spec_ResolvePath.j0 k l0 a1 a2 a3 false) else ((spec_l10Mode.f a2).bind fun t640 => (spec_ResolvePath.j0 k l0 a1 a2 a3 (!t640)))) else (some (4, 0, ([] : List (S80))))))) else (some (t635, 0, ([] : List (S80)))))
theorem spec_ResolvePath.mono_l : ∀ k, (∀ y0 y1 y2 y3 y4, LeO (spec_ResolvePath.j0 k y0 y1 y2 y3 y4) (spec_ResolvePath.j0 (k + 1) y0 y1 y2 y3 y4))
 | 0 => fun _ _ _ _ _ r h => by simp [spec_ResolvePath.j0] at h
 | k + 1 => by
  have ih0 := spec_ResolvePath.mono_l k
  ·
   intro y0 y1 y2 y3 y4
   unfold spec_ResolvePath.j0
   repeat' first
   | (with_reducible exact ih0 _ _ _ _ _)
   | (with_reducible exact spec_IndexFault.mono _ _)
   | (with_reducible exact spec_l10Resolve.mono _ _ _ _ _)
   | (with_reducible exact spec_l6Is.mono _ _ _)
   | (with_reducible exact spec_l9Has.mono _ _ _)
   | (with_reducible exact LeO.refl _)
   | (with_reducible exact LeO.none _)
   | (with_reducible refine LeO.ite ?_ ?_)
   | (with_reducible refine LeO.bind ?_ (fun _ => ?_))
   | exact ih0 _ _ _ _ _
   | exact spec_IndexFault.mono _ _
   | exact spec_l10Resolve.mono _ _ _ _ _
   | exact spec_l6Is.mono _ _ _
   | exact spec_l9Has.mono _ _ _
   | exact LeO.none _
   | refine LeO.ite ?_ ?_
   | refine LeO.bind ?_ (fun _ => ?_)
theorem spec_ResolvePath.mono : ∀ a0 a1 a2 a3 k, LeO (spec_ResolvePath.f k a0 a1 a2 a3) (spec_ResolvePath.f (k + 1) a0 a1 a2 a3) := by
 intro a0 a1 a2 a3 k
 have ih0 := spec_ResolvePath.mono_l k
 unfold spec_ResolvePath.f
 repeat' first
   | (with_reducible exact ih0 _ _ _ _ _)
   | (with_reducible exact spec_IndexFault.mono _ _)
   | (with_reducible exact spec_l10Resolve.mono _ _ _ _ _)
   | (with_reducible exact spec_l6Is.mono _ _ _)
   | (with_reducible exact spec_l9Has.mono _ _ _)
   | (with_reducible exact LeO.refl _)
   | (with_reducible exact LeO.none _)
   | (with_reducible refine LeO.ite ?_ ?_)
   | (with_reducible refine LeO.bind ?_ (fun _ => ?_))
   | exact ih0 _ _ _ _ _
   | exact spec_IndexFault.mono _ _
   | exact spec_l10Resolve.mono _ _ _ _ _
   | exact spec_l6Is.mono _ _ _
   | exact spec_l9Has.mono _ _ _
   | exact LeO.none _
   | refine LeO.ite ?_ ?_
   | refine LeO.bind ?_ (fun _ => ?_)
set_option maxHeartbeats 8000000 in
set_option maxRecDepth 100000 in
theorem spec_ResolvePath.calls (k : Nat) (A0 : Option Addr) (c0 : Nat) (l0 : List (S80)) (a1 : ByteArray) (a2 : Int) (a3 : ByteArray) (r1 : Int) (r2 : Int) (r3 : List (S80)) (w : World) (hr0 : Kd.C k80 w A0 l0.length l0) (hc0 : l0.length ≤ c0) (h : spec_ResolvePath.f k l0 a1 a2 a3 = some (r1, r2, r3)) :
  Calls Tryd.prog 40 #[.slice A0 l0.length c0, .string a1, .int .i64 a2, .string a3] w fun e w' => ∃ v2_ : Value, e = .returned (.agg #[.int .i64 r1, .int .i64 r2, v2_]) ∧ Kd.R k80 80 w' w.heap.size (fun _ => True) v2_ r3 ∧ Below w.heap.size w w' := by
 have hu65 := Tryd.underlying65
 have HR0 := zK hr0
 have HC0 := zK hc0
 clear hr0 hc0
 have HB := zK (Below.refl w.heap.size w)
 have H : ((spec_IndexFault.f k l0).bind fun t635 => (if t635 = 0 then ((spec_l10Clashes.f l0).bind fun t636 => ((spec_l9Has.f k t636 a1).bind fun t639 => (if t639 = true then (if a2 = 0 then (spec_ResolvePath.j0 k l0 a1 a2 a3 false) else ((spec_l10Mode.f a2).bind fun t640 => (spec_ResolvePath.j0 k l0 a1 a2 a3 (!t640)))) else (some (4, 0, ([] : List (S80))))))) else (some (t635, 0, ([] : List (S80)))))) = some (r1, r2, r3) := h
 clear h
 replace H := Option.bind_eq_some_iff.mp H
 obtain ⟨t635, A50, H⟩ := H
 replace H : (if t635 = 0 then ((spec_l10Clashes.f l0).bind fun t636 => ((spec_l9Has.f k t636 a1).bind fun t639 => (if t639 = true then (if a2 = 0 then (spec_ResolvePath.j0 k l0 a1 a2 a3 false) else ((spec_l10Mode.f a2).bind fun t640 => (spec_ResolvePath.j0 k l0 a1 a2 a3 (!t640)))) else (some (4, 0, ([] : List (S80))))))) else (some (t635, 0, ([] : List (S80))))) = some (r1, r2, r3) := H
 have A5 := zK A50
 clear A50
 by_cases c6 : t635 = 0
 ·
  rw [if_pos c6] at H
  have c6b0 : (t635 == 0) = true := beq_iff_eq.mpr c6
  have c6b1 : (t635 != 0) = false := bne_eq_false_iff_eq.mpr c6
  clear c6
  replace H := Option.bind_eq_some_iff.mp H
  obtain ⟨t636, A70, H⟩ := H
  replace H : ((spec_l9Has.f k t636 a1).bind fun t639 => (if t639 = true then (if a2 = 0 then (spec_ResolvePath.j0 k l0 a1 a2 a3 false) else ((spec_l10Mode.f a2).bind fun t640 => (spec_ResolvePath.j0 k l0 a1 a2 a3 (!t640)))) else (some (4, 0, ([] : List (S80)))))) = some (r1, r2, r3) := H
  have A7 := zK A70
  clear A70
  replace H := Option.bind_eq_some_iff.mp H
  obtain ⟨t639, A80, H⟩ := H
  replace H : (if t639 = true then (if a2 = 0 then (spec_ResolvePath.j0 k l0 a1 a2 a3 false) else ((spec_l10Mode.f a2).bind fun t640 => (spec_ResolvePath.j0 k l0 a1 a2 a3 (!t640)))) else (some (4, 0, ([] : List (S80))))) = some (r1, r2, r3) := H
  have A8 := zK A80
  clear A80
  by_cases c9 : t639 = true
  ·
   subst c9
   have H1 : (if a2 = 0 then (spec_ResolvePath.j0 k l0 a1 a2 a3 false) else ((spec_l10Mode.f a2).bind fun t640 => (spec_ResolvePath.j0 k l0 a1 a2 a3 (!t640)))) = some (r1, r2, r3) := by rw [if_pos rfl] at H; exact H
   clear H
   have H := H1
   clear H1
   have HC10 := zK H
   clear H
   go_enter Tryd.func40, Tryd.ntmps40
   go_upto_region 6 with (first | ((with_reducible refine gate_dst (N := 8) rfl ?_); refine box_event ?hg (N := 8) ?hd (cs := #[.int .i64 0, .int .i64 0, .slice none 0 0]) (t := 65) ?hr ?_; (case hd => rfl); (case hg => rfl); (case hr => first | (go_simp; done) | (go_simp; rfl)); intro gb634 hg w11 hbox hb; have n0_ := zK (below_step (by repeat (first | (with_reducible first | exact HB.out | apply zA | apply zN | apply zD) | exact HB.out)) hb); have n1_ := zK (hbox); have n2_ := zK ((by rw [hg]; exact (below_size (by repeat (first | (with_reducible first | exact HB.out | apply zA | apply zN | apply zD) | exact HB.out))) : w.heap.size ≤ gb634)); have n3_ := zK ((by rw [hg]; exact (below_size (by repeat (first | (with_reducible first | exact HB.out | apply zA | apply zN | apply zD) | exact HB.out))) : w.heap.size ≤ gb634)); clear HB; have HB := n0_; have BK634 := n1_; have GW634 := n2_; have GE634 := n3_; clear n0_ n1_ n2_ n3_; clear hb hbox hg) | ((with_reducible refine gate_callee (f := 48) rfl ?_); refine goesL_ (some 11) rfl rfl Tryd.func48 (by kernel_rfl) rfl #[.slice A0 l0.length c0] rfl (by (try simp only [List.map_toArray, List.map_cons, List.map_nil]); first | done | rfl | (simp only [List.length_drop, List.length_take]; rfl)) ?_; (with_reducible refine (spec_IndexFault.calls k _ _ l0 t635 _ ?side1 ?side2 A5.out).mono ?_); (case side1 => repeat (first | exact (Kd.C_below HR0.out HB.out) | (with_reducible refine Kd.C_alloc ?_ _) | (with_reducible refine Kd.C_drewN ?_ _) | (with_reducible refine Kd.C_drew ?_))); (case side2 => exact HC0.out); rintro e w12 ⟨rfl, hb⟩; refine ⟨_, rfl, ?_⟩; have n0_ := zK (blk_below (g := gb634) (o := .cells #[.int .i64 0, .int .i64 0, .slice none 0 0] 65 (0, 0)) (by (with_reducible repeat (first | refine zM ?_ _ | refine zP ?_ | refine zQ ?_ _)); exact BK634.out) hb); have n1_ := zK (below_step (by repeat (first | (with_reducible first | exact HB.out | apply zA | apply zN | apply zD | refine below_set ?_ GE634.out) | exact HB.out)) hb); clear BK634; clear HB; have BK634 := n0_; have HB := n1_; clear n0_ n1_; (try clear hb); (try clear hb2); (try clear hk); (try clear hi)) | ((with_reducible refine gate_callee (f := 49) rfl ?_); refine goesL_ (some 17) rfl rfl Tryd.func49 (by kernel_rfl) rfl #[.slice A0 l0.length c0] rfl (by (try simp only [List.map_toArray, List.map_cons, List.map_nil]); first | done | rfl | (simp only [List.length_drop, List.length_take]; rfl)) ?_; (with_reducible refine (spec_l10Clashes.calls _ _ l0 t636 _ ?side1 ?side2 A7.out).mono ?_); (case side1 => repeat (first | exact (Kd.C_below HR0.out HB.out) | (with_reducible refine Kd.C_alloc ?_ _) | (with_reducible refine Kd.C_drewN ?_ _) | (with_reducible refine Kd.C_drew ?_))); (case side2 => exact HC0.out); rintro e w13 ⟨v637, rfl, ho0, hb⟩; refine ⟨_, rfl, ?_⟩; have n0_ := zK (Kd.R_lower ho0 (below_size (by repeat (first | (with_reducible first | exact HB.out | apply zA | apply zN | apply zD | refine below_set ?_ GE634.out) | exact HB.out)))); have n1_ := zK (blk_below (g := gb634) (o := .cells #[.int .i64 0, .int .i64 0, .slice none 0 0] 65 (0, 0)) (by (with_reducible repeat (first | refine zM ?_ _ | refine zP ?_ | refine zQ ?_ _)); exact BK634.out) hb); have n2_ := zK (below_step (by repeat (first | (with_reducible first | exact HB.out | apply zA | apply zN | apply zD | refine below_set ?_ GE634.out) | exact HB.out)) hb); clear BK634; clear HB; have HO638 := n0_; have BK634 := n1_; have HB := n2_; clear n0_ n1_ n2_; (try clear hb); (try clear hb2); (try clear hk); (try clear hi); (try clear ho0); obtain ⟨Ao14, co14, eo14⟩ := Kd.R_slice HO638.out; subst eo14) | ((with_reducible refine gate_callee (f := 88) rfl ?_); refine goesL_ (some 19) rfl rfl Tryd.func88 (by kernel_rfl) rfl #[.slice Ao14 t636.length co14, .string a1] rfl (by (try simp only [List.map_toArray, List.map_cons, List.map_nil]); first | done | rfl | (simp only [List.length_drop, List.length_take]; rfl)) ?_; (with_reducible refine (spec_l9Has.calls k _ _ t636 a1 true _ ?side1 ?side2 A8.out).mono ?_); (case side1 => repeat (first | exact (Kd.R_reads' HO638.out).2.2 | (with_reducible refine Kd.C_alloc ?_ _) | (with_reducible refine Kd.C_drewN ?_ _) | (with_reducible refine Kd.C_drew ?_))); (case side2 => exact (Kd.R_reads' HO638.out).2.1); rintro e w' ⟨rfl, ⟨nd, rfl⟩⟩; refine ⟨_, rfl, ?_⟩))
   (try simp only [Act.put, zS, zT, zU])
   go_cut [28] (fun v28 wc => ∃ (kq : Nat) (x28_9 : Bool), v28 = .bool x28_9 ∧ Aside0 (spec_ResolvePath.j0 kq l0 a1 a2 a3 x28_9 = some (r1, r2, r3)) ∧ Aside0 (kq ≤ k) ∧ Aside0 (wc.heap[gb634]? = some (.cells #[.int .i64 0, .int .i64 0, (.slice none 0 0)] 65 (0, 0))) ∧ Aside0 (Below w.heap.size w wc))
   case first =>
    have H := HC10.out
    clear HC10
    by_cases c15 : a2 = 0
    ·
     rw [if_pos c15] at H
     have c15b0 : (a2 == 0) = true := beq_iff_eq.mpr c15
     have c15b1 : (a2 != 0) = false := bne_eq_false_iff_eq.mpr c15
     clear c15
     (first | rw [c15b0] | (simp only [i64_w, i32_w]; rw [c15b0]) | skip)
     have H' := zK H
     clear H
     go_wp2
     go_meet
     case rel => exact ⟨_, (false), (by first | rfl | (simp; done) | (simp [*]; done)), H', ⟨by first | omega | exact Nat.le_refl _⟩, ⟨by (with_reducible repeat (first | refine zM ?_ _ | refine zP ?_ | refine zQ ?_ _)); exact BK634.out⟩, ⟨by repeat (first | (with_reducible first | exact HB.out | apply zA | apply zN | apply zD | refine below_set ?_ GE634.out) | exact HB.out)⟩⟩
    ·
     rw [if_neg c15] at H
     have c15b0 : (a2 == 0) = false := beq_eq_false_iff_ne.mpr c15
     have c15b1 : (a2 != 0) = true := bne_iff_ne.mpr c15
     (first | rw [c15b0] | (simp only [i64_w, i32_w]; rw [c15b0]) | skip)
     replace H := Option.bind_eq_some_iff.mp H
     obtain ⟨t640, A160, H⟩ := H
     replace H : (spec_ResolvePath.j0 k l0 a1 a2 a3 (!t640)) = some (r1, r2, r3) := H
     have A16 := zK A160
     clear A160
     have H' := zK H
     clear H
     go_wp2_with (first | (go_at_call 89; (with_reducible refine (spec_l10Mode.calls a2 t640 _ A16.out).mono ?_); rintro e w' ⟨rfl, ⟨nd, rfl⟩⟩))
     go_meet
     case rel => exact ⟨_, (!t640), (by first | rfl | (simp; done) | (simp [*]; done)), H', ⟨by first | omega | exact Nat.le_refl _⟩, ⟨by (with_reducible repeat (first | refine zM ?_ _ | refine zP ?_ | refine zQ ?_ _)); exact BK634.out⟩, ⟨by repeat (first | (with_reducible first | exact HB.out | apply zA | apply zN | apply zD | refine below_set ?_ GE634.out) | exact HB.out)⟩⟩
   case rest =>
    clear HC10
    try clear c1
    try clear p2
    try clear c4
    try clear c6
    try clear c6b0
    try clear c6b1
    try clear c8
    try clear c9
    try clear c15
    try clear c15b0
    try clear c15b1
    obtain ⟨kq, x28_9, rfl, HA, HJ9, BK634, HB⟩ := hcut
    cases kq with
    | zero => exact absurd HA.out (by simp [spec_ResolvePath.j0])
    | succ kj9 =>
     have H := HA.out
     clear HA
     simp only [spec_ResolvePath.j0] at H
     by_cases c17 : x28_9 = true
     ·
      subst c17
      have H1 : (some (3, 0, ([] : List (S80)))) = some (r1, r2, r3) := by rw [if_pos rfl] at H; exact H
      clear H
      have H := H1
      clear H1
      simp only [Option.some.injEq, Prod.mk.injEq] at H
      obtain ⟨rfl, rfl, rfl⟩ := H
      have hcz18_0 : wc.cell? ⟨gb634, 0, none⟩ = some (.int .i64 0) := (blk_cell BK634.out 0).trans rfl
      have hcz18_1 : wc.cell? ⟨gb634, 1, none⟩ = some (.int .i64 0) := (blk_cell BK634.out 1).trans rfl
      have hcz18_2 : wc.cell? ⟨gb634, 2, none⟩ = some (.slice none 0 0) := (blk_cell BK634.out 2).trans rfl
      have hfz18_0 := blk_frozen BK634.out 0
      have hfz18_1 := blk_frozen BK634.out 1
      have hfz18_2 := blk_frozen BK634.out 2
      go_wp2
      refine bodyPost_ret (results_cell_row rfl _ _ gb634 65 #[.int .i64 3, .int .i64 0, .slice none 0 0] (0, 0) _ rfl (by (with_reducible repeat (first | refine zM ?_ _ | refine zP ?_ | refine zQ ?_ _)); refine blk_put (cs := #[.int .i64 3, .int .i64 0, .slice none 0 0]) ?_ 2 _ rfl; (with_reducible repeat (first | refine zM ?_ _ | refine zP ?_ | refine zQ ?_ _)); refine blk_put (cs := #[.int .i64 3, .int .i64 0, .slice none 0 0]) ?_ 1 _ rfl; (with_reducible repeat (first | refine zM ?_ _ | refine zP ?_ | refine zQ ?_ _)); refine blk_put (cs := #[.int .i64 0, .int .i64 0, .slice none 0 0]) ?_ 0 _ rfl; (with_reducible repeat (first | refine zM ?_ _ | refine zP ?_ | refine zQ ?_ _)); exact BK634.out) Tryd.underlying65 rfl (by kernel_rfl)) rfl ?_
      exact ⟨_, by first | rfl | (simp [errW_none, errW_some] <;> rfl) | (simp [*, errW_none, errW_some] <;> rfl), by first | exact Kd.R_nil _ _ _ _ _ | exact Kd.N_nil _ _ _ _ _ | exact Kd.V_nil _ _ _ _ _ | exact Kd.Q_nil _ _ _ _ _ | exact Kd.S_nil _ _ _ _ _, by repeat (first | (with_reducible first | exact HB.out | apply zA | apply zN | apply zD | refine below_set ?_ GE634.out) | exact HB.out)⟩
     ·
      replace c17 := Bool.eq_false_iff.mpr c17
      subst c17
      have H1 : (if a2 = 0 then (if a3.toList = ([] : List UInt8) then ((spec_l10Resolve.f kj9 l0 a1 a2 a3).bind fun t641 => (some (0, 0, t641))) else (some (1, 0, ([] : List (S80))))) else ((spec_l6Is.f kj9 a3 1).bind fun t644 => (if t644 = true then ((spec_l10Resolve.f kj9 l0 a1 a2 a3).bind fun t645 => (some (0, 0, t645))) else (some (1, 0, ([] : List (S80))))))) = some (r1, r2, r3) := by rw [if_neg (show ¬ (false = true) by decide)] at H; exact H
      clear H
      have H := H1
      clear H1
      by_cases c19 : a2 = 0
      ·
       rw [if_pos c19] at H
       have c19b0 : (a2 == 0) = true := beq_iff_eq.mpr c19
       have c19b1 : (a2 != 0) = false := bne_eq_false_iff_eq.mpr c19
       clear c19
       by_cases c20 : a3.toList = ([] : List UInt8)
       ·
        rw [if_pos c20] at H
        have c20b0 : (a3.toList == ([] : List UInt8)) = true := beq_iff_eq.mpr c20
        have c20b1 : (a3.toList != ([] : List UInt8)) = false := bne_eq_false_iff_eq.mpr c20
        clear c20
        replace H := Option.bind_eq_some_iff.mp H
        obtain ⟨t641, A210, H⟩ := H
        replace H : (some (0, 0, t641)) = some (r1, r2, r3) := H
        have A21 := zK A210
        clear A210
        simp only [Option.some.injEq, Prod.mk.injEq] at H
        obtain ⟨rfl, rfl, rfl⟩ := H
        go_wp2_with (first | ((with_reducible refine gate_callee (f := 91) rfl ?_); refine goesL_ (some 50) rfl rfl Tryd.func91 (by kernel_rfl) rfl #[.slice A0 l0.length c0, .string a1, .int .i64 a2, .string a3] rfl (by (try simp only [List.map_toArray, List.map_cons, List.map_nil]); first | done | rfl | (simp only [List.length_drop, List.length_take]; rfl)) ?_; (with_reducible refine (spec_l10Resolve.calls kj9 _ _ l0 a1 a2 a3 t641 _ ?side1 ?side2 A21.out).mono ?_); (case side1 => repeat (first | exact (Kd.C_below HR0.out HB.out) | (with_reducible refine Kd.C_alloc ?_ _) | (with_reducible refine Kd.C_drewN ?_ _) | (with_reducible refine Kd.C_drew ?_))); (case side2 => exact HC0.out); rintro e w22 ⟨v642, rfl, ho0, hb⟩; refine ⟨_, rfl, ?_⟩; have n0_ := zK (Kd.R_lower ho0 (below_size (by repeat (first | (with_reducible first | exact HB.out | apply zA | apply zN | apply zD | refine below_set ?_ GE634.out) | exact HB.out)))); have n1_ := zK (blk_below (g := gb634) (o := .cells #[.int .i64 0, .int .i64 0, .slice none 0 0] 65 (0, 0)) (by (with_reducible repeat (first | refine zM ?_ _ | refine zP ?_ | refine zQ ?_ _)); exact BK634.out) hb); have n2_ := zK (below_step (by repeat (first | (with_reducible first | exact HB.out | apply zA | apply zN | apply zD | refine below_set ?_ GE634.out) | exact HB.out)) hb); clear BK634; clear HB; have HO643 := n0_; have BK634 := n1_; have HB := n2_; clear n0_ n1_ n2_; (try clear hb); (try clear hb2); (try clear hk); (try clear hi); (try clear ho0); obtain ⟨Ao23, co23, eo23⟩ := Kd.R_slice HO643.out; subst eo23; have hcz24_0 : w22.cell? ⟨gb634, 0, none⟩ = some (.int .i64 0) := (blk_cell BK634.out 0).trans rfl; have hcz24_1 : w22.cell? ⟨gb634, 1, none⟩ = some (.int .i64 0) := (blk_cell BK634.out 1).trans rfl; have hcz24_2 : w22.cell? ⟨gb634, 2, none⟩ = some (.slice none 0 0) := (blk_cell BK634.out 2).trans rfl; have hfz24_0 := blk_frozen BK634.out 0; have hfz24_1 := blk_frozen BK634.out 1; have hfz24_2 := blk_frozen BK634.out 2))
        refine bodyPost_ret (results_cell_row rfl _ _ gb634 65 #[.int .i64 0, .int .i64 0, .slice Ao23 t641.length co23] (0, 0) _ rfl (by (with_reducible repeat (first | refine zM ?_ _ | refine zP ?_ | refine zQ ?_ _)); refine blk_put (cs := #[.int .i64 0, .int .i64 0, .slice none 0 0]) ?_ 2 _ rfl; (with_reducible repeat (first | refine zM ?_ _ | refine zP ?_ | refine zQ ?_ _)); refine blk_put (cs := #[.int .i64 0, .int .i64 0, .slice none 0 0]) ?_ 1 _ rfl; (with_reducible repeat (first | refine zM ?_ _ | refine zP ?_ | refine zQ ?_ _)); refine blk_put (cs := #[.int .i64 0, .int .i64 0, .slice none 0 0]) ?_ 0 _ rfl; (with_reducible repeat (first | refine zM ?_ _ | refine zP ?_ | refine zQ ?_ _)); exact BK634.out) Tryd.underlying65 rfl (by kernel_rfl)) rfl ?_
        exact ⟨_, by first | rfl | (simp [errW_none, errW_some] <;> rfl) | (simp [*, errW_none, errW_some] <;> rfl), by (with_reducible repeat (first | apply zR | apply zV | apply zW)); exact Kd.R_mono (Kd.R_far (p := ⟨gb634, 2, none⟩) (Kd.R_far (p := ⟨gb634, 1, none⟩) (Kd.R_far (p := ⟨gb634, 0, none⟩) (Kd.R_types HO643.out BK634.out (by decide)) (fun _ hk => hk.2) (.int .i64 0)) (fun _ hk => hk.2) (.int .i64 0)) (fun _ hk => hk.2) (.slice Ao23 t641.length co23)) (fun _ hk => trivial), by repeat (first | (with_reducible first | exact HB.out | apply zA | apply zN | apply zD | refine below_set ?_ GE634.out) | exact HB.out)⟩
       ·
        rw [if_neg c20] at H
        have c20b0 : (a3.toList == ([] : List UInt8)) = false := beq_eq_false_iff_ne.mpr c20
        have c20b1 : (a3.toList != ([] : List UInt8)) = true := bne_iff_ne.mpr c20
        simp only [Option.some.injEq, Prod.mk.injEq] at H
        obtain ⟨rfl, rfl, rfl⟩ := H
        have hcz25_0 : wc.cell? ⟨gb634, 0, none⟩ = some (.int .i64 0) := (blk_cell BK634.out 0).trans rfl
        have hcz25_1 : wc.cell? ⟨gb634, 1, none⟩ = some (.int .i64 0) := (blk_cell BK634.out 1).trans rfl
        have hcz25_2 : wc.cell? ⟨gb634, 2, none⟩ = some (.slice none 0 0) := (blk_cell BK634.out 2).trans rfl
        have hfz25_0 := blk_frozen BK634.out 0
        have hfz25_1 := blk_frozen BK634.out 1
        have hfz25_2 := blk_frozen BK634.out 2
        go_wp2
        refine bodyPost_ret (results_cell_row rfl _ _ gb634 65 #[.int .i64 1, .int .i64 0, .slice none 0 0] (0, 0) _ rfl (by (with_reducible repeat (first | refine zM ?_ _ | refine zP ?_ | refine zQ ?_ _)); refine blk_put (cs := #[.int .i64 1, .int .i64 0, .slice none 0 0]) ?_ 2 _ rfl; (with_reducible repeat (first | refine zM ?_ _ | refine zP ?_ | refine zQ ?_ _)); refine blk_put (cs := #[.int .i64 1, .int .i64 0, .slice none 0 0]) ?_ 1 _ rfl; (with_reducible repeat (first | refine zM ?_ _ | refine zP ?_ | refine zQ ?_ _)); refine blk_put (cs := #[.int .i64 0, .int .i64 0, .slice none 0 0]) ?_ 0 _ rfl; (with_reducible repeat (first | refine zM ?_ _ | refine zP ?_ | refine zQ ?_ _)); exact BK634.out) Tryd.underlying65 rfl (by kernel_rfl)) rfl ?_
        exact ⟨_, by first | rfl | (simp [errW_none, errW_some] <;> rfl) | (simp [*, errW_none, errW_some] <;> rfl), by first | exact Kd.R_nil _ _ _ _ _ | exact Kd.N_nil _ _ _ _ _ | exact Kd.V_nil _ _ _ _ _ | exact Kd.Q_nil _ _ _ _ _ | exact Kd.S_nil _ _ _ _ _, by repeat (first | (with_reducible first | exact HB.out | apply zA | apply zN | apply zD | refine below_set ?_ GE634.out) | exact HB.out)⟩
      ·
       rw [if_neg c19] at H
       have c19b0 : (a2 == 0) = false := beq_eq_false_iff_ne.mpr c19
       have c19b1 : (a2 != 0) = true := bne_iff_ne.mpr c19
       replace H := Option.bind_eq_some_iff.mp H
       obtain ⟨t644, A260, H⟩ := H
       replace H : (if t644 = true then ((spec_l10Resolve.f kj9 l0 a1 a2 a3).bind fun t645 => (some (0, 0, t645))) else (some (1, 0, ([] : List (S80))))) = some (r1, r2, r3) := H
       have A26 := zK A260
       clear A260
       by_cases c27 : t644 = true
       ·
        subst c27
        have H1 : ((spec_l10Resolve.f kj9 l0 a1 a2 a3).bind fun t645 => (some (0, 0, t645))) = some (r1, r2, r3) := by rw [if_pos rfl] at H; exact H
        clear H
        have H := H1
        clear H1
        replace H := Option.bind_eq_some_iff.mp H
        obtain ⟨t645, A280, H⟩ := H
        replace H : (some (0, 0, t645)) = some (r1, r2, r3) := H
        have A28 := zK A280
        clear A280
        simp only [Option.some.injEq, Prod.mk.injEq] at H
        obtain ⟨rfl, rfl, rfl⟩ := H
        go_wp2_with (first | (go_at_call 90; (with_reducible refine (spec_l6Is.calls kj9 a3 1 true _ A26.out).mono ?_); rintro e w' ⟨rfl, ⟨nd, rfl⟩⟩; (try (rw [drewN_self wc]; generalize hq_ : World.drewN wc _ = wc; have n0_ : Aside0 (wc.heap[gb634]? = some (.cells #[.int .i64 0, .int .i64 0, .slice none 0 0] 65 (0, 0))) := ⟨by rw [← hq_]; exact (by (with_reducible repeat (first | refine zM ?_ _ | refine zP ?_ | refine zQ ?_ _)); exact BK634.out)⟩; have n1_ : Aside0 (Below w.heap.size w wc) := ⟨by rw [← hq_]; exact (by repeat (first | (with_reducible first | exact HB.out | apply zA | apply zN | apply zD | refine below_set ?_ GE634.out) | exact HB.out))⟩; clear BK634 HB hq_; have BK634 := n0_; have HB := n1_; clear n0_ n1_))) | ((with_reducible refine gate_callee (f := 91) rfl ?_); refine goesL_ (some 50) rfl rfl Tryd.func91 (by kernel_rfl) rfl #[.slice A0 l0.length c0, .string a1, .int .i64 a2, .string a3] rfl (by (try simp only [List.map_toArray, List.map_cons, List.map_nil]); first | done | rfl | (simp only [List.length_drop, List.length_take]; rfl)) ?_; (with_reducible refine (spec_l10Resolve.calls kj9 _ _ l0 a1 a2 a3 t645 _ ?side1 ?side2 A28.out).mono ?_); (case side1 => repeat (first | exact (Kd.C_below HR0.out HB.out) | (with_reducible refine Kd.C_alloc ?_ _) | (with_reducible refine Kd.C_drewN ?_ _) | (with_reducible refine Kd.C_drew ?_))); (case side2 => exact HC0.out); rintro e w29 ⟨v646, rfl, ho0, hb⟩; refine ⟨_, rfl, ?_⟩; have n0_ := zK (Kd.R_lower ho0 (below_size (by repeat (first | (with_reducible first | exact HB.out | apply zA | apply zN | apply zD | refine below_set ?_ GE634.out) | exact HB.out)))); have n1_ := zK (blk_below (g := gb634) (o := .cells #[.int .i64 0, .int .i64 0, .slice none 0 0] 65 (0, 0)) (by (with_reducible repeat (first | refine zM ?_ _ | refine zP ?_ | refine zQ ?_ _)); exact BK634.out) hb); have n2_ := zK (below_step (by repeat (first | (with_reducible first | exact HB.out | apply zA | apply zN | apply zD | refine below_set ?_ GE634.out) | exact HB.out)) hb); clear BK634; clear HB; have HO647 := n0_; have BK634 := n1_; have HB := n2_; clear n0_ n1_ n2_; (try clear hb); (try clear hb2); (try clear hk); (try clear hi); (try clear ho0); obtain ⟨Ao30, co30, eo30⟩ := Kd.R_slice HO647.out; subst eo30; have hcz31_0 : w29.cell? ⟨gb634, 0, none⟩ = some (.int .i64 0) := (blk_cell BK634.out 0).trans rfl; have hcz31_1 : w29.cell? ⟨gb634, 1, none⟩ = some (.int .i64 0) := (blk_cell BK634.out 1).trans rfl; have hcz31_2 : w29.cell? ⟨gb634, 2, none⟩ = some (.slice none 0 0) := (blk_cell BK634.out 2).trans rfl; have hfz31_0 := blk_frozen BK634.out 0; have hfz31_1 := blk_frozen BK634.out 1; have hfz31_2 := blk_frozen BK634.out 2))
        refine bodyPost_ret (results_cell_row rfl _ _ gb634 65 #[.int .i64 0, .int .i64 0, .slice Ao30 t645.length co30] (0, 0) _ rfl (by (with_reducible repeat (first | refine zM ?_ _ | refine zP ?_ | refine zQ ?_ _)); refine blk_put (cs := #[.int .i64 0, .int .i64 0, .slice none 0 0]) ?_ 2 _ rfl; (with_reducible repeat (first | refine zM ?_ _ | refine zP ?_ | refine zQ ?_ _)); refine blk_put (cs := #[.int .i64 0, .int .i64 0, .slice none 0 0]) ?_ 1 _ rfl; (with_reducible repeat (first | refine zM ?_ _ | refine zP ?_ | refine zQ ?_ _)); refine blk_put (cs := #[.int .i64 0, .int .i64 0, .slice none 0 0]) ?_ 0 _ rfl; (with_reducible repeat (first | refine zM ?_ _ | refine zP ?_ | refine zQ ?_ _)); exact BK634.out) Tryd.underlying65 rfl (by kernel_rfl)) rfl ?_
        exact ⟨_, by first | rfl | (simp [errW_none, errW_some] <;> rfl) | (simp [*, errW_none, errW_some] <;> rfl), by (with_reducible repeat (first | apply zR | apply zV | apply zW)); exact Kd.R_mono (Kd.R_far (p := ⟨gb634, 2, none⟩) (Kd.R_far (p := ⟨gb634, 1, none⟩) (Kd.R_far (p := ⟨gb634, 0, none⟩) (Kd.R_types HO647.out BK634.out (by decide)) (fun _ hk => hk.2) (.int .i64 0)) (fun _ hk => hk.2) (.int .i64 0)) (fun _ hk => hk.2) (.slice Ao30 t645.length co30)) (fun _ hk => trivial), by repeat (first | (with_reducible first | exact HB.out | apply zA | apply zN | apply zD | refine below_set ?_ GE634.out) | exact HB.out)⟩
       ·
        replace c27 := Bool.eq_false_iff.mpr c27
        subst c27
        have H1 : (some (1, 0, ([] : List (S80)))) = some (r1, r2, r3) := by rw [if_neg (show ¬ (false = true) by decide)] at H; exact H
        clear H
        have H := H1
        clear H1
        simp only [Option.some.injEq, Prod.mk.injEq] at H
        obtain ⟨rfl, rfl, rfl⟩ := H
        go_wp2_with (first | (go_at_call 90; (with_reducible refine (spec_l6Is.calls kj9 a3 1 false _ A26.out).mono ?_); rintro e w' ⟨rfl, ⟨nd, rfl⟩⟩; (try (rw [drewN_self wc]; generalize hq_ : World.drewN wc _ = wc; have n0_ : Aside0 (wc.heap[gb634]? = some (.cells #[.int .i64 0, .int .i64 0, .slice none 0 0] 65 (0, 0))) := ⟨by rw [← hq_]; exact (by (with_reducible repeat (first | refine zM ?_ _ | refine zP ?_ | refine zQ ?_ _)); exact BK634.out)⟩; have n1_ : Aside0 (Below w.heap.size w wc) := ⟨by rw [← hq_]; exact (by repeat (first | (with_reducible first | exact HB.out | apply zA | apply zN | apply zD | refine below_set ?_ GE634.out) | exact HB.out))⟩; clear BK634 HB hq_; have BK634 := n0_; have HB := n1_; clear n0_ n1_)); have hcz32_0 : wc.cell? ⟨gb634, 0, none⟩ = some (.int .i64 0) := (blk_cell BK634.out 0).trans rfl; have hcz32_1 : wc.cell? ⟨gb634, 1, none⟩ = some (.int .i64 0) := (blk_cell BK634.out 1).trans rfl; have hcz32_2 : wc.cell? ⟨gb634, 2, none⟩ = some (.slice none 0 0) := (blk_cell BK634.out 2).trans rfl; have hfz32_0 := blk_frozen BK634.out 0; have hfz32_1 := blk_frozen BK634.out 1; have hfz32_2 := blk_frozen BK634.out 2))
        refine bodyPost_ret (results_cell_row rfl _ _ gb634 65 #[.int .i64 1, .int .i64 0, .slice none 0 0] (0, 0) _ rfl (by (with_reducible repeat (first | refine zM ?_ _ | refine zP ?_ | refine zQ ?_ _)); refine blk_put (cs := #[.int .i64 1, .int .i64 0, .slice none 0 0]) ?_ 2 _ rfl; (with_reducible repeat (first | refine zM ?_ _ | refine zP ?_ | refine zQ ?_ _)); refine blk_put (cs := #[.int .i64 1, .int .i64 0, .slice none 0 0]) ?_ 1 _ rfl; (with_reducible repeat (first | refine zM ?_ _ | refine zP ?_ | refine zQ ?_ _)); refine blk_put (cs := #[.int .i64 0, .int .i64 0, .slice none 0 0]) ?_ 0 _ rfl; (with_reducible repeat (first | refine zM ?_ _ | refine zP ?_ | refine zQ ?_ _)); exact BK634.out) Tryd.underlying65 rfl (by kernel_rfl)) rfl ?_
        exact ⟨_, by first | rfl | (simp [errW_none, errW_some] <;> rfl) | (simp [*, errW_none, errW_some] <;> rfl), by first | exact Kd.R_nil _ _ _ _ _ | exact Kd.N_nil _ _ _ _ _ | exact Kd.V_nil _ _ _ _ _ | exact Kd.Q_nil _ _ _ _ _ | exact Kd.S_nil _ _ _ _ _, by repeat (first | (with_reducible first | exact HB.out | apply zA | apply zN | apply zD | refine below_set ?_ GE634.out) | exact HB.out)⟩
  ·
   replace c9 := Bool.eq_false_iff.mpr c9
   subst c9
   have H1 : (some (4, 0, ([] : List (S80)))) = some (r1, r2, r3) := by rw [if_neg (show ¬ (false = true) by decide)] at H; exact H
   clear H
   have H := H1
   clear H1
   simp only [Option.some.injEq, Prod.mk.injEq] at H
   obtain ⟨rfl, rfl, rfl⟩ := H
   go_enter Tryd.func40, Tryd.ntmps40
   go_wp2_with (first | ((with_reducible refine gate_dst (N := 8) rfl ?_); refine box_event ?hg (N := 8) ?hd (cs := #[.int .i64 0, .int .i64 0, .slice none 0 0]) (t := 65) ?hr ?_; (case hd => rfl); (case hg => rfl); (case hr => first | (go_simp; done) | (go_simp; rfl)); intro gb634 hg w33 hbox hb; have n0_ := zK (below_step (by repeat (first | (with_reducible first | exact HB.out | apply zA | apply zN | apply zD) | exact HB.out)) hb); have n1_ := zK (hbox); have n2_ := zK ((by rw [hg]; exact (below_size (by repeat (first | (with_reducible first | exact HB.out | apply zA | apply zN | apply zD) | exact HB.out))) : w.heap.size ≤ gb634)); have n3_ := zK ((by rw [hg]; exact (below_size (by repeat (first | (with_reducible first | exact HB.out | apply zA | apply zN | apply zD) | exact HB.out))) : w.heap.size ≤ gb634)); clear HB; have HB := n0_; have BK634 := n1_; have GW634 := n2_; have GE634 := n3_; clear n0_ n1_ n2_ n3_; clear hb hbox hg) | ((with_reducible refine gate_callee (f := 48) rfl ?_); refine goesL_ (some 11) rfl rfl Tryd.func48 (by kernel_rfl) rfl #[.slice A0 l0.length c0] rfl (by (try simp only [List.map_toArray, List.map_cons, List.map_nil]); first | done | rfl | (simp only [List.length_drop, List.length_take]; rfl)) ?_; (with_reducible refine (spec_IndexFault.calls k _ _ l0 t635 _ ?side1 ?side2 A5.out).mono ?_); (case side1 => repeat (first | exact (Kd.C_below HR0.out HB.out) | (with_reducible refine Kd.C_alloc ?_ _) | (with_reducible refine Kd.C_drewN ?_ _) | (with_reducible refine Kd.C_drew ?_))); (case side2 => exact HC0.out); rintro e w34 ⟨rfl, hb⟩; refine ⟨_, rfl, ?_⟩; have n0_ := zK (blk_below (g := gb634) (o := .cells #[.int .i64 0, .int .i64 0, .slice none 0 0] 65 (0, 0)) (by (with_reducible repeat (first | refine zM ?_ _ | refine zP ?_ | refine zQ ?_ _)); exact BK634.out) hb); have n1_ := zK (below_step (by repeat (first | (with_reducible first | exact HB.out | apply zA | apply zN | apply zD | refine below_set ?_ GE634.out) | exact HB.out)) hb); clear BK634; clear HB; have BK634 := n0_; have HB := n1_; clear n0_ n1_; (try clear hb); (try clear hb2); (try clear hk); (try clear hi)) | ((with_reducible refine gate_callee (f := 49) rfl ?_); refine goesL_ (some 17) rfl rfl Tryd.func49 (by kernel_rfl) rfl #[.slice A0 l0.length c0] rfl (by (try simp only [List.map_toArray, List.map_cons, List.map_nil]); first | done | rfl | (simp only [List.length_drop, List.length_take]; rfl)) ?_; (with_reducible refine (spec_l10Clashes.calls _ _ l0 t636 _ ?side1 ?side2 A7.out).mono ?_); (case side1 => repeat (first | exact (Kd.C_below HR0.out HB.out) | (with_reducible refine Kd.C_alloc ?_ _) | (with_reducible refine Kd.C_drewN ?_ _) | (with_reducible refine Kd.C_drew ?_))); (case side2 => exact HC0.out); rintro e w35 ⟨v637, rfl, ho0, hb⟩; refine ⟨_, rfl, ?_⟩; have n0_ := zK (Kd.R_lower ho0 (below_size (by repeat (first | (with_reducible first | exact HB.out | apply zA | apply zN | apply zD | refine below_set ?_ GE634.out) | exact HB.out)))); have n1_ := zK (blk_below (g := gb634) (o := .cells #[.int .i64 0, .int .i64 0, .slice none 0 0] 65 (0, 0)) (by (with_reducible repeat (first | refine zM ?_ _ | refine zP ?_ | refine zQ ?_ _)); exact BK634.out) hb); have n2_ := zK (below_step (by repeat (first | (with_reducible first | exact HB.out | apply zA | apply zN | apply zD | refine below_set ?_ GE634.out) | exact HB.out)) hb); clear BK634; clear HB; have HO638 := n0_; have BK634 := n1_; have HB := n2_; clear n0_ n1_ n2_; (try clear hb); (try clear hb2); (try clear hk); (try clear hi); (try clear ho0); obtain ⟨Ao36, co36, eo36⟩ := Kd.R_slice HO638.out; subst eo36) | ((with_reducible refine gate_callee (f := 88) rfl ?_); refine goesL_ (some 19) rfl rfl Tryd.func88 (by kernel_rfl) rfl #[.slice Ao36 t636.length co36, .string a1] rfl (by (try simp only [List.map_toArray, List.map_cons, List.map_nil]); first | done | rfl | (simp only [List.length_drop, List.length_take]; rfl)) ?_; (with_reducible refine (spec_l9Has.calls k _ _ t636 a1 false _ ?side1 ?side2 A8.out).mono ?_); (case side1 => repeat (first | exact (Kd.R_reads' HO638.out).2.2 | (with_reducible refine Kd.C_alloc ?_ _) | (with_reducible refine Kd.C_drewN ?_ _) | (with_reducible refine Kd.C_drew ?_))); (case side2 => exact (Kd.R_reads' HO638.out).2.1); rintro e w' ⟨rfl, ⟨nd, rfl⟩⟩; refine ⟨_, rfl, ?_⟩; (try (rw [drewN_self w35]; generalize hq_ : World.drewN w35 _ = w35; have n0_ : Aside0 (Kd.R Kd.string 9 w35 w.heap.size (fun _ => True) (.slice Ao36 t636.length co36) t636) := ⟨by rw [← hq_]; exact (by (with_reducible repeat (first | apply zR | apply zV | apply zW)); exact HO638.out)⟩; have n1_ : Aside0 (w35.heap[gb634]? = some (.cells #[.int .i64 0, .int .i64 0, .slice none 0 0] 65 (0, 0))) := ⟨by rw [← hq_]; exact (by (with_reducible repeat (first | refine zM ?_ _ | refine zP ?_ | refine zQ ?_ _)); exact BK634.out)⟩; have n2_ : Aside0 (Below w.heap.size w w35) := ⟨by rw [← hq_]; exact (by repeat (first | (with_reducible first | exact HB.out | apply zA | apply zN | apply zD | refine below_set ?_ GE634.out) | exact HB.out))⟩; clear HO638 BK634 HB hq_; have HO638 := n0_; have BK634 := n1_; have HB := n2_; clear n0_ n1_ n2_)); have hcz37_0 : w35.cell? ⟨gb634, 0, none⟩ = some (.int .i64 0) := (blk_cell BK634.out 0).trans rfl; have hcz37_1 : w35.cell? ⟨gb634, 1, none⟩ = some (.int .i64 0) := (blk_cell BK634.out 1).trans rfl; have hcz37_2 : w35.cell? ⟨gb634, 2, none⟩ = some (.slice none 0 0) := (blk_cell BK634.out 2).trans rfl; have hfz37_0 := blk_frozen BK634.out 0; have hfz37_1 := blk_frozen BK634.out 1; have hfz37_2 := blk_frozen BK634.out 2))
   refine bodyPost_ret (results_cell_row rfl _ _ gb634 65 #[.int .i64 4, .int .i64 0, .slice none 0 0] (0, 0) _ rfl (by (with_reducible repeat (first | refine zM ?_ _ | refine zP ?_ | refine zQ ?_ _)); refine blk_put (cs := #[.int .i64 4, .int .i64 0, .slice none 0 0]) ?_ 2 _ rfl; (with_reducible repeat (first | refine zM ?_ _ | refine zP ?_ | refine zQ ?_ _)); refine blk_put (cs := #[.int .i64 4, .int .i64 0, .slice none 0 0]) ?_ 1 _ rfl; (with_reducible repeat (first | refine zM ?_ _ | refine zP ?_ | refine zQ ?_ _)); refine blk_put (cs := #[.int .i64 0, .int .i64 0, .slice none 0 0]) ?_ 0 _ rfl; (with_reducible repeat (first | refine zM ?_ _ | refine zP ?_ | refine zQ ?_ _)); exact BK634.out) Tryd.underlying65 rfl (by kernel_rfl)) rfl ?_
   exact ⟨_, by first | rfl | (simp [errW_none, errW_some] <;> rfl) | (simp [*, errW_none, errW_some] <;> rfl), by first | exact Kd.R_nil _ _ _ _ _ | exact Kd.N_nil _ _ _ _ _ | exact Kd.V_nil _ _ _ _ _ | exact Kd.Q_nil _ _ _ _ _ | exact Kd.S_nil _ _ _ _ _, by repeat (first | (with_reducible first | exact HB.out | apply zA | apply zN | apply zD | refine below_set ?_ GE634.out) | exact HB.out)⟩
 ·
  rw [if_neg c6] at H
  have c6b0 : (t635 == 0) = false := beq_eq_false_iff_ne.mpr c6
  have c6b1 : (t635 != 0) = true := bne_iff_ne.mpr c6
  simp only [Option.some.injEq, Prod.mk.injEq] at H
  obtain ⟨rfl, rfl, rfl⟩ := H
  go_enter Tryd.func40, Tryd.ntmps40
  go_wp2_with (first | ((with_reducible refine gate_dst (N := 8) rfl ?_); refine box_event ?hg (N := 8) ?hd (cs := #[.int .i64 0, .int .i64 0, .slice none 0 0]) (t := 65) ?hr ?_; (case hd => rfl); (case hg => rfl); (case hr => first | (go_simp; done) | (go_simp; rfl)); intro gb634 hg w38 hbox hb; have n0_ := zK (below_step (by repeat (first | (with_reducible first | exact HB.out | apply zA | apply zN | apply zD) | exact HB.out)) hb); have n1_ := zK (hbox); have n2_ := zK ((by rw [hg]; exact (below_size (by repeat (first | (with_reducible first | exact HB.out | apply zA | apply zN | apply zD) | exact HB.out))) : w.heap.size ≤ gb634)); have n3_ := zK ((by rw [hg]; exact (below_size (by repeat (first | (with_reducible first | exact HB.out | apply zA | apply zN | apply zD) | exact HB.out))) : w.heap.size ≤ gb634)); clear HB; have HB := n0_; have BK634 := n1_; have GW634 := n2_; have GE634 := n3_; clear n0_ n1_ n2_ n3_; clear hb hbox hg) | ((with_reducible refine gate_callee (f := 48) rfl ?_); refine goesL_ (some 11) rfl rfl Tryd.func48 (by kernel_rfl) rfl #[.slice A0 l0.length c0] rfl (by (try simp only [List.map_toArray, List.map_cons, List.map_nil]); first | done | rfl | (simp only [List.length_drop, List.length_take]; rfl)) ?_; (with_reducible refine (spec_IndexFault.calls k _ _ l0 t635 _ ?side1 ?side2 A5.out).mono ?_); (case side1 => repeat (first | exact (Kd.C_below HR0.out HB.out) | (with_reducible refine Kd.C_alloc ?_ _) | (with_reducible refine Kd.C_drewN ?_ _) | (with_reducible refine Kd.C_drew ?_))); (case side2 => exact HC0.out); rintro e w39 ⟨rfl, hb⟩; refine ⟨_, rfl, ?_⟩; have n0_ := zK (blk_below (g := gb634) (o := .cells #[.int .i64 0, .int .i64 0, .slice none 0 0] 65 (0, 0)) (by (with_reducible repeat (first | refine zM ?_ _ | refine zP ?_ | refine zQ ?_ _)); exact BK634.out) hb); have n1_ := zK (below_step (by repeat (first | (with_reducible first | exact HB.out | apply zA | apply zN | apply zD | refine below_set ?_ GE634.out) | exact HB.out)) hb); clear BK634; clear HB; have BK634 := n0_; have HB := n1_; clear n0_ n1_; (try clear hb); (try clear hb2); (try clear hk); (try clear hi); have hcz40_0 : w39.cell? ⟨gb634, 0, none⟩ = some (.int .i64 0) := (blk_cell BK634.out 0).trans rfl; have hcz40_1 : w39.cell? ⟨gb634, 1, none⟩ = some (.int .i64 0) := (blk_cell BK634.out 1).trans rfl; have hcz40_2 : w39.cell? ⟨gb634, 2, none⟩ = some (.slice none 0 0) := (blk_cell BK634.out 2).trans rfl; have hfz40_0 := blk_frozen BK634.out 0; have hfz40_1 := blk_frozen BK634.out 1; have hfz40_2 := blk_frozen BK634.out 2))
  refine bodyPost_ret (results_cell_row rfl _ _ gb634 65 #[.int .i64 t635, .int .i64 0, .slice none 0 0] (0, 0) _ rfl (by (with_reducible repeat (first | refine zM ?_ _ | refine zP ?_ | refine zQ ?_ _)); refine blk_put (cs := #[.int .i64 t635, .int .i64 0, .slice none 0 0]) ?_ 2 _ rfl; (with_reducible repeat (first | refine zM ?_ _ | refine zP ?_ | refine zQ ?_ _)); refine blk_put (cs := #[.int .i64 t635, .int .i64 0, .slice none 0 0]) ?_ 1 _ rfl; (with_reducible repeat (first | refine zM ?_ _ | refine zP ?_ | refine zQ ?_ _)); refine blk_put (cs := #[.int .i64 0, .int .i64 0, .slice none 0 0]) ?_ 0 _ rfl; (with_reducible repeat (first | refine zM ?_ _ | refine zP ?_ | refine zQ ?_ _)); exact BK634.out) Tryd.underlying65 rfl (by kernel_rfl)) rfl ?_
  exact ⟨_, by first | rfl | (simp [errW_none, errW_some] <;> rfl) | (simp [*, errW_none, errW_some] <;> rfl), by first | exact Kd.R_nil _ _ _ _ _ | exact Kd.N_nil _ _ _ _ _ | exact Kd.V_nil _ _ _ _ _ | exact Kd.Q_nil _ _ _ _ _ | exact Kd.S_nil _ _ _ _ _, by repeat (first | (with_reducible first | exact HB.out | apply zA | apply zN | apply zD | refine below_set ?_ GE634.out) | exact HB.out)⟩

end Go.Proofs.YtjibadlbiapcmaaDoor.PX
