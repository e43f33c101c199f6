/- Texts of this claim set one behind another by wip/bundle.py: XClashPut, XClash, PXf49, PXf56, PXf92. -/
import Derived.Test.YtjibadlbiapcmaaDoorBRP22
import Derived.Test.YtjibadlbiapcmaaDoorBRP12
import Derived.Test.YtjibadlbiapcmaaDoorBRP20
import Derived.Test.YtjibadlbiapcmaaDoorBRP7
import Derived.Test.YtjibadlbiapcmaaDoorBRP4
import Derived.Deep.RegionHeld3
import Derived.Test.YtjibadlbiapcmaaDoorBRP13
import Derived.Test.YtjibadlbiapcmaaDoorBRP21
namespace Go.Proofs.YtjibadlbiapcmaaDoor.PX.X
open Go Go.RowKit Go.Lib Go.Proofs.YtjibadlbiapcmaaDoorW.PrintWords Go.Proofs.YtjibadlbiapcmaaDoor.PX
set_option linter.unusedVariables false
set_option linter.unusedSimpArgs false
theorem toList_data (a : ByteArray) : a.toList = a.data.toList := YtjibadlbiapcmaaDoorX.toList_eq a
theorem putL_in {x s : ByteArray} {l : List ByteArray} (h : lessB x s = true) : putL (x :: l) s = x :: putL l s := by
  show (if lessB x s = true then x :: putL l s else if x = s then x :: l else s :: x :: l) = _
  rw [if_pos h]
theorem putL_eq {s : ByteArray} {l : List ByteArray} : putL (s :: l) s = s :: l := by
  show (if lessB s s = true then s :: putL l s else if s = s then s :: l else s :: s :: l) = _
  rw [if_neg (by rw [lessB_irrefl]; decide), if_pos rfl]
theorem putL_new {x s : ByteArray} {l : List ByteArray} (h : ¬ lessB x s = true) (he : ¬ x = s) : putL (x :: l) s = s :: x :: l := by
  show (if lessB x s = true then x :: putL l s else if x = s then x :: l else s :: x :: l) = _
  rw [if_neg h, if_neg he]
theorem grown_at {W w1 : World} {row : Option Nat} (hg : W.grownBy w1 row) (n : Nat) (hr : row = some n) (m : Nat) (hm : m < W.heap.size) (hne : m ≠ n) : w1.heap[m]? = W.heap[m]? :=
  hg.block m hm (by rw [hr]; exact fun e => hne (Option.some.inj e))
theorem size_two (W : World) (a b : Obj) : ((W.alloc a).alloc b).drew.heap.size = W.heap.size + 2 := by
  show ((W.heap.push a).push b).size = _
  rw [Array.size_push, Array.size_push]
theorem C_takeK {w : World} {A : Option Addr} {l : List ByteArray} {m : Nat} (h : Kd.C Kd.string w A l.length l) (hm : m ≤ l.length) : Kd.C Kd.string w A m (l.take m) := by
  have h2 := Kd.C_take h hm
  rw [List.length_take, Nat.min_eq_left hm] at h2
  exact h2
theorem C_dropK {w : World} {A : Option Addr} {l : List ByteArray} {m c : Nat} (h : Kd.C Kd.string w A l.length l) (hm : m ≤ l.length) (hc : l.length ≤ c) : Kd.C Kd.string w (if c = m then A else A.map (·.add m)) (l.length - m) (l.drop m) := by
  have h2 := Kd.C_drop h hm hc
  rw [List.length_drop, show Kd.string.sz = 1 from rfl, Nat.mul_one] at h2
  exact h2
theorem C_one_of {W : World} {m : Nat} {s : ByteArray} (h : W.heap[m]? = some (.cells #[.string s] 9 (0, 0))) : Kd.C Kd.string W (some ⟨m, 0, none⟩) 1 [s] := by
  refine Kd.C_of_reads (d := ByteArray.empty) ⟨rfl, by decide, fun _ => ⟨_, rfl, fun j hj => ?_⟩⟩
  match j, hj with
  | 0, _ => exact (blk_cell h 0).trans rfl
theorem R_empty_of {W : World} {n B : Nat} (hn : B ≤ n) (h : W.heap[n]? = some (.cells #[] 9 (0, 0))) : Kd.R Kd.string 9 W B (fun _ => True) (.slice (some ⟨n, 0, none⟩) 0 0) [] := by
  refine ⟨fun _ _ => trivial, [], ⟨rfl, .inr ⟨n, 0, #[], rfl, hn, h, Nat.le_refl _, by decide, rfl, rfl⟩⟩, Reps.none _ _⟩
theorem blk_new1 (W : World) (a b : Obj) : ((W.alloc a).alloc b).heap[W.heap.size + 1]? = some b := by
  have h := blk_new (W.alloc a) b
  have e : (W.alloc a).heap.size = W.heap.size + 1 := Array.size_push _
  rw [e] at h
  exact h
set_option maxHeartbeats 4000000 in
set_option maxRecDepth 8000 in
theorem put_calls (B : Nat) (v : Value) (l : List ByteArray) (s : ByteArray) (w : World) (hR : Kd.R Kd.string 9 w B (fun _ => True) v l) (hB : B ≤ w.heap.size) (hl : (l.length + 1) * 16 ≤ 140737488355328) :
    Calls Tryd.prog 100 #[v, .string s] w fun e w' => ∃ v', e = .returned v' ∧ Kd.R Kd.string 9 w' B (fun _ => True) v' (putL l s) ∧ Below w.heap.size w w' := by
  obtain ⟨A, c, rfl, hc, hC⟩ := Kd.R_reads hR
  have HR := Lib.hid hR
  have HC := Lib.hid hC
  clear hR hC
  have hcz : (l.length : Int) ≤ (c : Int) := by omega
  go_enter Tryd.func100, Tryd.ntmps100
  go_wp2
  go_loopg [5] l.length (fun gg s5 wr => ∃ kk : Nat, kk ≤ l.length ∧ l.length - kk ≤ gg ∧ s5 = .int .i64 kk ∧ wr = w ∧ Aside (putL l s = l.take kk ++ putL (l.drop kk) s))
  case atStart => exact ⟨0, Nat.zero_le _, by omega, rfl, rfl, rfl⟩
  case round =>
    obtain ⟨kk, hkk, hg, rfl, rfl, HP⟩ := hrel
    have hkz : (0 : Int) ≤ (kk : Int) := by omega
    by_cases hlt : kk < l.length
    · have hltz : (kk : Int) < (l.length : Int) := by omega
      have hltb : decide ((kk : Int) < (l.length : Int)) = true := decide_eq_true hltz
      obtain ⟨ad, rfl, hcell⟩ := Kd.at_string HC.out (kk : Int) hkz hltz
      rw [Int.toNat_natCast] at hcell
      have hx : rdOf ByteArray.empty l (kk : Int) = l[kk] := by
        show l.getD ((kk : Int)).toNat _ = _
        rw [Int.toNat_natCast, List.getD_eq_getElem?_getD, List.getElem?_eq_getElem hlt, Option.getD_some]
      have hdrop : l.drop kk = l[kk] :: l.drop (kk + 1) := List.drop_eq_getElem_cons hlt
      have htake : l.take (kk + 1) = l.take kk ++ [l[kk]] := List.take_succ_eq_append_getElem hlt
      have hp := HP.out
      rw [hdrop] at hp
      rw [hx] at hcell
      have hwhole : l.take kk ++ l[kk] :: l.drop (kk + 1) = l := by rw [← hdrop]; exact List.take_append_drop kk l
      clear HP hx
      have HD := Lib.hid hdrop
      clear hdrop
      generalize l[kk] = x at hcell hp htake hwhole HD
      have HT := Lib.hid htake
      have HPP := Lib.hid hp
      have HW := Lib.hid hwhole
      clear htake hp hwhole
      by_cases hless : lessB x s = true
      · have hb : Op.bytesLess x.toList s.toList = true := by rw [toList_data, toList_data]; exact hless
        go_wp2
        go_roundg (l.length - (kk + 1))
        case measure => omega
        case rel => exact ⟨kk + 1, by omega, Nat.le_refl _, by go_num, rfl, by rw [HPP.out, putL_in hless, HT.out, List.append_assoc]; rfl⟩
      · have hb : Op.bytesLess x.toList s.toList = false := by rw [toList_data, toList_data]; exact Bool.eq_false_iff.mpr hless
        by_cases heq : x = s
        · subst heq
          have he : (x.toList == x.toList) = true := beq_self_eq_true _
          go_wp2
          go_ret
          refine ⟨_, rfl, ?_, Below.refl _ _⟩
          rw [HPP.out, putL_eq, HW.out]
          exact HR.out
        · have he : (x.toList == s.toList) = false := beq_eq_false_iff_ne.mpr (fun h => heq (by rw [toList_data, toList_data] at h; exact dataL_inj h))
          have hput : putL l s = (l.take kk ++ [s]) ++ l.drop kk := by
            rw [HPP.out, putL_new hless heq, HD.out, List.append_assoc]
            rfl
          have HPU := Lib.hid hput
          clear hput
          go_wp2
          have hkc : (kk : Int) ≤ (c : Int) := by omega
          have hkl : (kk : Int) ≤ (l.length : Int) := by omega
          have hk1 : ((kk : Int)).toNat = kk := Int.toNat_natCast kk
          have hK0 : Below wr.heap.size wr wr.drew := (Below.refl _ _).drew
          go_region_held3 (fun w' => Below wr.heap.size wr w') ((with_reducible repeat (first | assumption | exact Below.refl _ _ | apply below_alloc | apply pw_below_drewN | apply below_drew1)))
            (first
              | (refine Kd.R_append_rows_step Kd.string (w0 := wr) wr.heap.size (by rfl) (.tmp 33) (.tmp 36) 76 9 (.string ⟨#[]⟩) 16 (by rfl) Tryd.underlying76 info9 rfl (by decide) (by decide) _ ([] : List ByteArray) (l.take kk) _ kk c (fun _ => True) (fun _ => False) (by rfl) (by rfl) ?aO ?aR (fun _ _ h => h) (fun _ h => h.elim) (fun _ _ => trivial) ?aB ?aS ?aL ?_
                 (case aO => exact R_empty_of (by first | exact Nat.le_refl _ | exact Nat.le_succ _) (by with_reducible repeat (first | exact blk_new _ _ | exact blk_new1 _ _ _ | refine blk_drew ?_ | refine blk_alloc ?_ _)))
                 (case aR => exact C_takeK (Kd.C_below HC.out (by with_reducible repeat (first | assumption | exact Below.refl _ _ | apply below_alloc | apply pw_below_drewN | apply below_drew1))) hkk)
                 (case aB => exact (by with_reducible repeat (first | assumption | exact Below.refl _ _ | apply below_alloc | apply pw_below_drewN | apply below_drew1)))
                 (case aS => exact below_size (by with_reducible repeat (first | assumption | exact Below.refl _ _ | apply below_alloc | apply pw_below_drewN | apply below_drew1)))
                 (case aL => simp only [List.length_nil]; omega)
                 intro v1 w1 ho1 hb1 hg1 hat1
                 clear hat1)
              | (refine Kd.R_append_rows_step Kd.string (w0 := wr) wr.heap.size (by rfl) (.tmp 37) (.tmp 39) 76 9 (.string ⟨#[]⟩) 16 (by rfl) Tryd.underlying76 info9 rfl (by decide) (by decide) v1 ([] ++ l.take kk) [s] _ 1 1 (fun _ => True) (fun _ => False) (by rfl) (by rfl) ?aO ?aR (fun _ _ h => h) (fun _ h => h.elim) (fun _ _ => trivial) ?aB ?aS ?aL ?_
                 (case aO => exact (by with_reducible repeat (first | exact ho1 | apply Kd.R_alloc | apply Kd.R_drewN | apply Kd.R_drew)))
                 (case aR => refine C_one_of ?_; first | ((with_reducible repeat (first | exact blk_new _ _ | exact blk_new1 _ _ _ | refine blk_drew ?_ | refine blk_alloc ?_ _)); done) | (refine (grown_at hg1 _ rfl _ (by rw [size_two]; omega) (by first | exact Nat.ne_of_gt (Nat.lt_succ_self _) | exact Nat.ne_of_lt (Nat.lt_succ_self _))).trans ?_; (with_reducible repeat (first | exact blk_new _ _ | exact blk_new1 _ _ _ | refine blk_drew ?_ | refine blk_alloc ?_ _)); done))
                 (case aB => exact (by with_reducible repeat (first | assumption | exact Below.refl _ _ | apply below_alloc | apply pw_below_drewN | apply below_drew1)))
                 (case aS => exact below_size (by with_reducible repeat (first | assumption | exact Below.refl _ _ | apply below_alloc | apply pw_below_drewN | apply below_drew1)))
                 (case aL => rw [List.nil_append, List.length_take]; omega)
                 clear ho1 hg1
                 intro v2 w2 ho2 hb2 hg2 hat2
                 clear hg2 hat2)
              | (refine Kd.R_append_rows_step Kd.string (w0 := wr) wr.heap.size (by rfl) (.tmp 40) (.tmp 43) 76 9 (.string ⟨#[]⟩) 16 (by rfl) Tryd.underlying76 info9 rfl (by decide) (by decide) v2 ([] ++ l.take kk ++ [s]) (l.drop kk) _ (l.length - kk) (c - kk) (fun _ => True) (fun _ => False) (by rfl) (by rfl) ?aO ?aR (fun _ _ h => h) (fun _ h => h.elim) (fun _ _ => trivial) ?aB ?aS ?aL ?_
                 (case aO => exact (by with_reducible repeat (first | exact ho2 | apply Kd.R_alloc | apply Kd.R_drewN | apply Kd.R_drew)))
                 (case aR => exact C_dropK (Kd.C_below HC.out (by with_reducible repeat (first | assumption | exact Below.refl _ _ | apply below_alloc | apply pw_below_drewN | apply below_drew1))) hkk hc)
                 (case aB => exact (by with_reducible repeat (first | assumption | exact Below.refl _ _ | apply below_alloc | apply pw_below_drewN | apply below_drew1)))
                 (case aS => exact below_size (by with_reducible repeat (first | assumption | exact Below.refl _ _ | apply below_alloc | apply pw_below_drewN | apply below_drew1)))
                 (case aL => rw [List.nil_append, List.length_append, List.length_take, List.length_singleton]; omega)
                 clear ho2
                 intro v3 w3 ho3 hb3 hg3 hat3
                 clear hg3 hat3))
          all_goals go_wp2
          all_goals (
            go_ret
            rw [List.nil_append] at ho3
            refine ⟨v3, rfl, ?_, hb3⟩
            rw [HPU.out]
            exact Kd.R_lower ho3 hB)
    · have hke : kk = l.length := by omega
      have hltb : decide ((kk : Int) < (l.length : Int)) = false := decide_eq_false (by omega)
      have hput : putL l s = (l.take kk ++ [s]) ++ l.drop kk := by
        rw [HP.out, hke, List.drop_length]
        simp [putL]
      have HPU := Lib.hid hput
      clear hput HP hke
      go_wp2
      have hkc : (kk : Int) ≤ (c : Int) := by omega
      have hkl : (kk : Int) ≤ (l.length : Int) := by omega
      have hk1 : ((kk : Int)).toNat = kk := Int.toNat_natCast kk
      have hK0 : Below wr.heap.size wr wr.drew := (Below.refl _ _).drew
      go_region_held3 (fun w' => Below wr.heap.size wr w') ((with_reducible repeat (first | assumption | exact Below.refl _ _ | apply below_alloc | apply pw_below_drewN | apply below_drew1)))
        (first
          | (refine Kd.R_append_rows_step Kd.string (w0 := wr) wr.heap.size (by rfl) (.tmp 33) (.tmp 36) 76 9 (.string ⟨#[]⟩) 16 (by rfl) Tryd.underlying76 info9 rfl (by decide) (by decide) _ ([] : List ByteArray) (l.take kk) _ kk c (fun _ => True) (fun _ => False) (by rfl) (by rfl) ?aO ?aR (fun _ _ h => h) (fun _ h => h.elim) (fun _ _ => trivial) ?aB ?aS ?aL ?_
             (case aO => exact R_empty_of (by first | exact Nat.le_refl _ | exact Nat.le_succ _) (by with_reducible repeat (first | exact blk_new _ _ | exact blk_new1 _ _ _ | refine blk_drew ?_ | refine blk_alloc ?_ _)))
             (case aR => exact C_takeK (Kd.C_below HC.out (by with_reducible repeat (first | assumption | exact Below.refl _ _ | apply below_alloc | apply pw_below_drewN | apply below_drew1))) hkk)
             (case aB => exact (by with_reducible repeat (first | assumption | exact Below.refl _ _ | apply below_alloc | apply pw_below_drewN | apply below_drew1)))
             (case aS => exact below_size (by with_reducible repeat (first | assumption | exact Below.refl _ _ | apply below_alloc | apply pw_below_drewN | apply below_drew1)))
             (case aL => simp only [List.length_nil]; omega)
             intro v1 w1 ho1 hb1 hg1 hat1
             clear hat1)
          | (refine Kd.R_append_rows_step Kd.string (w0 := wr) wr.heap.size (by rfl) (.tmp 37) (.tmp 39) 76 9 (.string ⟨#[]⟩) 16 (by rfl) Tryd.underlying76 info9 rfl (by decide) (by decide) v1 ([] ++ l.take kk) [s] _ 1 1 (fun _ => True) (fun _ => False) (by rfl) (by rfl) ?aO ?aR (fun _ _ h => h) (fun _ h => h.elim) (fun _ _ => trivial) ?aB ?aS ?aL ?_
             (case aO => exact (by with_reducible repeat (first | exact ho1 | apply Kd.R_alloc | apply Kd.R_drewN | apply Kd.R_drew)))
             (case aR => refine C_one_of ?_; first | ((with_reducible repeat (first | exact blk_new _ _ | exact blk_new1 _ _ _ | refine blk_drew ?_ | refine blk_alloc ?_ _)); done) | (refine (grown_at hg1 _ rfl _ (by rw [size_two]; omega) (by first | exact Nat.ne_of_gt (Nat.lt_succ_self _) | exact Nat.ne_of_lt (Nat.lt_succ_self _))).trans ?_; (with_reducible repeat (first | exact blk_new _ _ | exact blk_new1 _ _ _ | refine blk_drew ?_ | refine blk_alloc ?_ _)); done))
             (case aB => exact (by with_reducible repeat (first | assumption | exact Below.refl _ _ | apply below_alloc | apply pw_below_drewN | apply below_drew1)))
             (case aS => exact below_size (by with_reducible repeat (first | assumption | exact Below.refl _ _ | apply below_alloc | apply pw_below_drewN | apply below_drew1)))
             (case aL => rw [List.nil_append, List.length_take]; omega)
             clear ho1 hg1
             intro v2 w2 ho2 hb2 hg2 hat2
             clear hg2 hat2)
          | (refine Kd.R_append_rows_step Kd.string (w0 := wr) wr.heap.size (by rfl) (.tmp 40) (.tmp 43) 76 9 (.string ⟨#[]⟩) 16 (by rfl) Tryd.underlying76 info9 rfl (by decide) (by decide) v2 ([] ++ l.take kk ++ [s]) (l.drop kk) _ (l.length - kk) (c - kk) (fun _ => True) (fun _ => False) (by rfl) (by rfl) ?aO ?aR (fun _ _ h => h) (fun _ h => h.elim) (fun _ _ => trivial) ?aB ?aS ?aL ?_
             (case aO => exact (by with_reducible repeat (first | exact ho2 | apply Kd.R_alloc | apply Kd.R_drewN | apply Kd.R_drew)))
             (case aR => exact C_dropK (Kd.C_below HC.out (by with_reducible repeat (first | assumption | exact Below.refl _ _ | apply below_alloc | apply pw_below_drewN | apply below_drew1))) hkk hc)
             (case aB => exact (by with_reducible repeat (first | assumption | exact Below.refl _ _ | apply below_alloc | apply pw_below_drewN | apply below_drew1)))
             (case aS => exact below_size (by with_reducible repeat (first | assumption | exact Below.refl _ _ | apply below_alloc | apply pw_below_drewN | apply below_drew1)))
             (case aL => rw [List.nil_append, List.length_append, List.length_take, List.length_singleton]; omega)
             clear ho2
             intro v3 w3 ho3 hb3 hg3 hat3
             clear hg3 hat3))
      all_goals go_wp2
      all_goals (
        go_ret
        rw [List.nil_append] at ho3
        refine ⟨v3, rfl, ?_, hb3⟩
        rw [HPU.out]
        exact Kd.R_lower ho3 hB)
abbrev CE := S80
def clashP (l : List CE) : List ByteArray := (l.filter fun x => decide (0 < x.f1)).map fun x => x.f0
theorem clashP_snoc (l : List CE) (x : CE) : clashP (l ++ [x]) = clashP l ++ (if 0 < x.f1 then [x.f0] else []) := by
  unfold clashP
  rw [List.filter_append, List.map_append]
  by_cases h : 0 < x.f1 <;> simp [h]
theorem clashP_len (l : List CE) : (clashP l).length ≤ l.length := by
  unfold clashP
  rw [List.length_map]
  exact List.length_filter_le _ _
theorem fold_len (ps : List ByteArray) : ∀ acc : List ByteArray, (ps.foldl putL acc).length ≤ acc.length + ps.length := by
  induction ps with
  | nil => intro acc; simp
  | cons p ps ih =>
    intro acc
    have h1 := ih (putL acc p)
    have h2 := putL_length p acc
    simp only [List.foldl_cons, List.length_cons]
    omega
def clashS (l : List CE) : List ByteArray := (clashP l).foldl putL []
theorem clashS_snoc (l : List CE) (x : CE) : clashS (l ++ [x]) = if 0 < x.f1 then putL (clashS l) x.f0 else clashS l := by
  unfold clashS
  rw [clashP_snoc, List.foldl_append]
  by_cases h : 0 < x.f1 <;> simp [h]
theorem clashS_len (l : List CE) : (clashS l).length ≤ l.length := by
  have h1 := fold_len (clashP l) []
  have h2 := clashP_len l
  simp only [List.length_nil] at h1
  unfold clashS
  omega
set_option maxHeartbeats 4000000 in
set_option maxRecDepth 8000 in
theorem clashesS_calls (A0 : Option Addr) (c0 : Nat) (l0 : List CE) (w : World) (hr0 : Kd.C k80 w A0 l0.length l0) (hbig : (l0.length + 2) * 16 ≤ 140737488355328) :
    Calls Tryd.prog 49 #[.slice A0 l0.length c0] w fun e w' => ∃ v', e = .returned v' ∧ Kd.R Kd.string 9 w' w.heap.size (fun _ => True) v' (clashS l0) ∧ Below w.heap.size w w' := by
  have HR := Lib.hid hr0
  clear hr0
  go_enter Tryd.func49, Tryd.ntmps49
  go_wp2_with (first | ((with_reducible refine gate_dst (N := 5) rfl ?_); refine Kd.R_lit Kd.string _ 9 ?hg (N := 5) ?hd (xs := ([] : List ByteArray)) (inner := []) (ok := fun _ => True) (okp := fun _ => True) ?hr ?hp (fun _ hk => hk) trivial (Below.refl _ _) (Nat.le_refl _) (by simp) ?_; (case hd => rfl); (case hg => rfl); (case hr => first | (go_simp; done) | (go_simp; rfl)); (case hp => exact (Reps.none _ _)); intro v3 w2 ho3 hb2 hg_ hnew_; clear hg_ hnew_; have HO := Lib.hid ho3; have HB2 := Lib.hid hb2; clear ho3 hb2))
  go_loopg [3, 4] l0.length (fun gg s3 s4 wr => ∃ kk : Nat, kk ≤ l0.length ∧ l0.length - kk ≤ gg ∧ s4 = .int .i64 kk ∧ Aside (Kd.R Kd.string 9 wr w.heap.size (fun _ => True) s3 (clashS (l0.take kk))) ∧ Aside (Below w.heap.size w wr))
  case atStart => exact ⟨0, Nat.zero_le _, by omega, rfl, HO.out, HB2.out⟩
  case round =>
    obtain ⟨kk, hkk, hg, rfl, AO, AB⟩ := hrel
    clear HO HB2
    have hkz : (0 : Int) ≤ (kk : Int) := by omega
    by_cases hlt : kk < l0.length
    · have hltz : (kk : Int) < (l0.length : Int) := by omega
      obtain ⟨ad, rfl, q0, q1, q2, q3⟩ := at_T80 HR.out (kk : Int) hkz hltz
      replace q0 := (AB.out.cell (World.block_lt_of_cell? w _ q0)).trans q0
      replace q1 := (AB.out.cell (World.block_lt_of_cell? w _ q1)).trans q1
      clear q2 q3
      rw [Int.toNat_natCast] at q0 q1
      have hx : rd_T80 l0 (kk : Int) = l0[kk] := by
        show l0.getD ((kk : Int)).toNat _ = _
        rw [Int.toNat_natCast, List.getD_eq_getElem?_getD, List.getElem?_eq_getElem hlt, Option.getD_some]
      have htake : clashS (l0.take (kk + 1)) = if 0 < l0[kk].f1 then putL (clashS (l0.take kk)) l0[kk].f0 else clashS (l0.take kk) := by
        rw [List.take_succ_eq_append_getElem hlt, clashS_snoc]
      have hlen : (clashS (l0.take kk)).length ≤ l0.length := Nat.le_trans (clashS_len _) (by rw [List.length_take]; omega)
      rw [hx] at q0 q1
      clear hx
      generalize l0[kk] = y at q0 q1 htake
      have HT := Lib.hid htake
      have HL := Lib.hid hlen
      clear htake hlen
      by_cases hs : 0 < y.f1
      · have hsb : decide (y.f1 > 0) = true := decide_eq_true hs
        have hsz : y.f1 > 0 := hs
        have ht : clashS (l0.take (kk + 1)) = putL (clashS (l0.take kk)) y.f0 := by rw [HT.out, if_pos hs]
        have HT2 := Lib.hid ht
        clear ht
        have HC := Lib.hid (put_calls w.heap.size _ (clashS (l0.take kk)) y.f0 wr AO.out AB.out.size (by have := HL.out; omega))
        go_wp2_with (go_at_call 100; (with_reducible refine HC.out.mono ?_); rintro e W4 ⟨v4, rfl, ho4, hb4⟩; have O4 := Lib.hid ho4; have B4 := Lib.hid hb4; clear ho4 hb4)
        go_roundg (l0.length - (kk + 1))
        case measure => omega
        case rel => exact ⟨kk + 1, by omega, Nat.le_refl _, by go_num, by rw [HT2.out]; exact O4.out, AB.out.trans (B4.out.mono AB.out.size)⟩
      · have hsb : decide (y.f1 > 0) = false := decide_eq_false hs
        have hsz : ¬ y.f1 > 0 := hs
        have ht : clashS (l0.take (kk + 1)) = clashS (l0.take kk) := by rw [HT.out, if_neg hs]
        have HT2 := Lib.hid ht
        clear ht
        go_wp2
        go_roundg (l0.length - (kk + 1))
        case measure => omega
        case rel => exact ⟨kk + 1, by omega, Nat.le_refl _, by go_num, by rw [HT2.out]; exact AO.out, AB.out⟩
    · have hke : kk = l0.length := by omega
      have hltz : ¬ (kk : Int) < (l0.length : Int) := by omega
      have AO2 := AO.out
      rw [hke, List.take_length] at AO2
      have HO2 := Lib.hid AO2
      clear AO2 AO hke
      go_wp2
      go_ret
      exact ⟨_, rfl, HO2.out, AB.out⟩
theorem below4 {w wr w2 : World} {ge : Nat} {a b c d : Value} (hb : Below w.heap.size w wr) (h2 : Below wr.heap.size wr w2) (hge : ge = wr.heap.size) : Below w.heap.size w ((((w2.setCell ⟨ge, 0, none⟩ a).setCell ⟨ge, 1, none⟩ b).setCell ⟨ge, 2, none⟩ c).setCell ⟨ge, 3, none⟩ d) :=
  hb.trans ((below_set (below_set (below_set (below_set h2 (Nat.le_of_eq hge.symm)) (Nat.le_of_eq hge.symm)) (Nat.le_of_eq hge.symm)) (Nat.le_of_eq hge.symm)).mono hb.size)
theorem moved4 {w wr w2 : World} {ge : Nat} {a b c d : Value} {e : Nat} {B : Nat} {ok : Nat → Prop} {v : Value} {l : List ByteArray} (hr : Kd.R Kd.string e wr B ok v l) (hb : Below w.heap.size w wr) (h2 : Below wr.heap.size wr w2) (hge : ge = wr.heap.size) : Kd.R Kd.string e ((((w2.setCell ⟨ge, 0, none⟩ a).setCell ⟨ge, 1, none⟩ b).setCell ⟨ge, 2, none⟩ c).setCell ⟨ge, 3, none⟩ d) B ok v l :=
  Kd.R_below hr (below_set (below_set (below_set (below_set h2 (Nat.le_of_eq hge.symm)) (Nat.le_of_eq hge.symm)) (Nat.le_of_eq hge.symm)) (Nat.le_of_eq hge.symm))
set_option maxHeartbeats 1000000 in
set_option maxRecDepth 8000 in
theorem clashesI_calls (A0 : Option Addr) (c0 : Nat) (l0 : List CE) (w : World) (hr0 : Kd.C k80 w A0 l0.length l0) (hbig : (l0.length + 2) * 16 ≤ 140737488355328) :
    Calls Tryd.prog 56 #[.slice A0 l0.length c0] w fun e w' => ∃ v', e = .returned v' ∧ Kd.R Kd.string 9 w' w.heap.size (fun _ => True) v' (compactB (clashP l0)) ∧ Below w.heap.size w w' := by
  have HR := Lib.hid hr0
  clear hr0
  go_enter Tryd.func56, Tryd.ntmps56
  go_wp2_with (first | ((with_reducible refine gate_dst (N := 6) rfl ?_); refine Kd.R_lit Kd.string _ 9 ?hg (N := 6) ?hd (xs := ([] : List ByteArray)) (inner := []) (ok := fun _ => True) (okp := fun _ => True) ?hr ?hp (fun _ hk => hk) trivial (Below.refl _ _) (Nat.le_refl _) (by simp) ?_; (case hd => rfl); (case hg => rfl); (case hr => first | (go_simp; done) | (go_simp; rfl)); (case hp => exact (Reps.none _ _)); intro v3 w2 ho3 hb2 hg_ hnew_; clear hg_ hnew_; have HO := Lib.hid ho3; have HB2 := Lib.hid hb2; clear ho3 hb2))
  go_loopg [3, 9] l0.length (fun gg s3 s9 wr => ∃ kk : Nat, kk ≤ l0.length ∧ l0.length - kk ≤ gg ∧ s9 = .int .i64 kk ∧ Aside (Kd.R Kd.string 9 wr w.heap.size (fun _ => True) s3 (clashP (l0.take kk))) ∧ Aside (Below w.heap.size w wr))
  case atStart => exact ⟨0, Nat.zero_le _, by omega, rfl, HO.out, HB2.out⟩
  case round =>
    obtain ⟨kk, hkk, hg, rfl, AO, AB⟩ := hrel
    clear HO HB2
    have hkz : (0 : Int) ≤ (kk : Int) := by omega
    by_cases hlt : kk < l0.length
    · have hltz : (kk : Int) < (l0.length : Int) := by omega
      obtain ⟨ad, rfl, q0, q1, q2, q3⟩ := at_T80 HR.out (kk : Int) hkz hltz
      replace q0 := (AB.out.cell (World.block_lt_of_cell? w _ q0)).trans q0
      replace q1 := (AB.out.cell (World.block_lt_of_cell? w _ q1)).trans q1
      replace q2 := (AB.out.cell (World.block_lt_of_cell? w _ q2)).trans q2
      replace q3 := (AB.out.cell (World.block_lt_of_cell? w _ q3)).trans q3
      rw [Int.toNat_natCast] at q0 q1 q2 q3
      have hx : rd_T80 l0 (kk : Int) = l0[kk] := by
        show l0.getD ((kk : Int)).toNat _ = _
        rw [Int.toNat_natCast, List.getD_eq_getElem?_getD, List.getElem?_eq_getElem hlt, Option.getD_some]
      have htake : clashP (l0.take (kk + 1)) = clashP (l0.take kk) ++ (if 0 < l0[kk].f1 then [l0[kk].f0] else []) := by
        rw [List.take_succ_eq_append_getElem hlt, clashP_snoc]
      have hlen : (clashP (l0.take kk)).length ≤ l0.length := Nat.le_trans (clashP_len _) (by rw [List.length_take]; omega)
      rw [hx] at q0 q1 q2 q3
      clear hx
      generalize l0[kk] = y at q0 q1 q2 q3 htake
      have HT := Lib.hid htake
      have HL := Lib.hid hlen
      clear htake hlen
      by_cases hs : 0 < y.f1
      · have hsb : decide (y.f1 > 0) = true := decide_eq_true hs
        have hsz : y.f1 > 0 := hs
        have ht : clashP (l0.take (kk + 1)) = clashP (l0.take kk) ++ [y.f0] := by rw [HT.out, if_pos hs]
        have HT2 := Lib.hid ht
        clear ht
        go_wp2_with (first | ((with_reducible refine gate_dst (N := 5) rfl ?_); refine box_event ?hg (N := 5) ?hd (cs := #[.string (⟨#[]⟩ : ByteArray), .int .i64 0, .int .i64 0, .string (⟨#[]⟩ : ByteArray)]) (t := 80) ?hr ?_; (case hd => rfl); (case hg => rfl); (case hr => first | (go_simp; done) | (go_simp; rfl)); intro ge hge w2 hbox hb2; have hcz0 : w2.cell? ⟨ge, 0, none⟩ = some (.string (⟨#[]⟩ : ByteArray)) := (blk_cell hbox 0).trans rfl; have hcz1 : w2.cell? ⟨ge, 1, none⟩ = some (.int .i64 0) := (blk_cell hbox 1).trans rfl; have hcz2 : w2.cell? ⟨ge, 2, none⟩ = some (.int .i64 0) := (blk_cell hbox 2).trans rfl; have hcz3 : w2.cell? ⟨ge, 3, none⟩ = some (.string (⟨#[]⟩ : ByteArray)) := (blk_cell hbox 3).trans rfl; have hfz0 := blk_frozen hbox 0; have hfz1 := blk_frozen hbox 1; have hfz2 := blk_frozen hbox 2; have hfz3 := blk_frozen hbox 3; have HB2 := Lib.hid hb2; have HGE := Lib.hid hge; have HRW := Lib.hid hbox; clear hbox hb2 hge) | ((with_reducible refine gate_builtin (b := .append) (xs := #[.tmp 16, .tmp 19]) rfl ?_); at_builtin; refine Kd.R_append Kd.string (w0 := w) w.heap.size rfl (.tmp 16) (.tmp 19) 76 9 (.string ⟨#[]⟩) 16 rfl Tryd.underlying76 info9 rfl (by decide) (by omega) _ (clashP (l0.take kk)) y.f0 [.string y.f0] (fun _ => True) (fun _ => False) rfl (by first | (go_simp; done) | (go_simp; rfl)) ?aP (fun _ hk => hk.elim) ?aF ?aO ?aB ?aS ?aL ?_; (case aP => exact rfl); (case aF => exact (fun _ _ => trivial)); (case aO => exact moved4 AO.out AB.out HB2.out HGE.out); (case aB => exact below4 AB.out HB2.out HGE.out); (case aS => exact below_size (below4 AB.out HB2.out HGE.out)); (case aL => have := HL.out; omega); intro v5 w5 ho5 hb5 hg5 hat5; have O5 := Lib.hid ho5; have B5 := Lib.hid hb5; clear ho5 hb5 hg5 hat5))
        go_roundg (l0.length - (kk + 1))
        case measure => omega
        case rel => exact ⟨kk + 1, by omega, Nat.le_refl _, by go_num, by rw [HT2.out]; exact O5.out, B5.out⟩
      · have hsb : decide (y.f1 > 0) = false := decide_eq_false hs
        have hsz : ¬ y.f1 > 0 := hs
        have ht : clashP (l0.take (kk + 1)) = clashP (l0.take kk) := by rw [HT.out, if_neg hs, List.append_nil]
        have HT2 := Lib.hid ht
        clear ht
        go_wp2_with (first | ((with_reducible refine gate_dst (N := 5) rfl ?_); refine box_event ?hg (N := 5) ?hd (cs := #[.string (⟨#[]⟩ : ByteArray), .int .i64 0, .int .i64 0, .string (⟨#[]⟩ : ByteArray)]) (t := 80) ?hr ?_; (case hd => rfl); (case hg => rfl); (case hr => first | (go_simp; done) | (go_simp; rfl)); intro ge hge w2 hbox hb2; have hcz0 : w2.cell? ⟨ge, 0, none⟩ = some (.string (⟨#[]⟩ : ByteArray)) := (blk_cell hbox 0).trans rfl; have hcz1 : w2.cell? ⟨ge, 1, none⟩ = some (.int .i64 0) := (blk_cell hbox 1).trans rfl; have hcz2 : w2.cell? ⟨ge, 2, none⟩ = some (.int .i64 0) := (blk_cell hbox 2).trans rfl; have hcz3 : w2.cell? ⟨ge, 3, none⟩ = some (.string (⟨#[]⟩ : ByteArray)) := (blk_cell hbox 3).trans rfl; have hfz0 := blk_frozen hbox 0; have hfz1 := blk_frozen hbox 1; have hfz2 := blk_frozen hbox 2; have hfz3 := blk_frozen hbox 3; have HB2 := Lib.hid hb2; have HGE := Lib.hid hge; have HRW := Lib.hid hbox; clear hbox hb2 hge))
        go_roundg (l0.length - (kk + 1))
        case measure => omega
        case rel => exact ⟨kk + 1, by omega, Nat.le_refl _, by go_num, by rw [HT2.out]; exact moved4 AO.out AB.out HB2.out HGE.out, below4 AB.out HB2.out HGE.out⟩
    · have hke : kk = l0.length := by omega
      have hltz : ¬ (kk : Int) < (l0.length : Int) := by omega
      have AO2 := AO.out
      rw [hke, List.take_length] at AO2
      have HC := Lib.hid (compact_own wr w.heap.size _ (clashP l0) AO2 (by have := clashP_len l0; omega))
      clear AO2 AO hke
      go_wp2_with (go_at_call 107; (with_reducible refine HC.out.mono ?_); rintro e W4 ⟨v4, rfl, ho4, hb4⟩; have O4 := Lib.hid ho4; have B4 := Lib.hid (hb4 _ _ AB.out (Nat.le_refl _)); clear ho4 hb4)
      go_ret
      exact ⟨_, rfl, O4.out, B4.out⟩
end Go.Proofs.YtjibadlbiapcmaaDoor.PX.X

namespace Go.Proofs.YtjibadlbiapcmaaDoor.PX
open Go.RowKit Go.Proofs.YtjibadlbiapcmaaDoorW.PrintWords Go.Proofs.YtjibadlbiapcmaaDoorW.PrintLast Go.Proofs.YtjibadlbiapcmaaDoorW.PrintMore
attribute [local go_sem] max2_int min2_int max_two min_two max_three min_three max_four min_four   -- for this text's walks alone
set_option linter.unusedVariables false
set_option linter.unusedSimpArgs false

/-! ### spec_l10Clashes: function 49 -/
def spec_l10Clashes.f (l0 : List X.CE) : Option (List (ByteArray)) := if (l0.length + 2) * 16 ≤ 140737488355328 then some (X.clashS l0) else none
theorem spec_l10Clashes.calls (A0 : Option Addr) (c0 : Nat) (l0 : List X.CE) (r : List (ByteArray)) (w : World) (hr0 : Kd.C k80 w A0 l0.length l0) (hc0 : l0.length ≤ c0) (h : spec_l10Clashes.f l0 = some r) :
  Calls Tryd.prog 49 #[.slice A0 l0.length c0] w fun e w' => ∃ v0_ : Value, e = .returned (v0_) ∧ Kd.R Kd.string 9 w' w.heap.size (fun _ => True) v0_ r ∧ Below w.heap.size w w' := by
 unfold spec_l10Clashes.f at h
 by_cases hk : (l0.length + 2) * 16 ≤ 140737488355328
 ·
  rw [if_pos hk] at h
  obtain rfl := Option.some.inj h
  exact X.clashesS_calls A0 c0 l0 w hr0 hk
 ·
  rw [if_neg hk] at h
  cases h


/-! ### impl_clashesIn: function 56 -/
def impl_clashesIn.f (l0 : List X.CE) : Option (List (ByteArray)) := if (l0.length + 2) * 16 ≤ 140737488355328 then some (X.compactB (X.clashP l0)) else none
theorem impl_clashesIn.calls (A0 : Option Addr) (c0 : Nat) (l0 : List X.CE) (r : List (ByteArray)) (w : World) (hr0 : Kd.C k80 w A0 l0.length l0) (hc0 : l0.length ≤ c0) (h : impl_clashesIn.f l0 = some r) :
  Calls Tryd.prog 56 #[.slice A0 l0.length c0] w fun e w' => ∃ v0_ : Value, e = .returned (v0_) ∧ Kd.R Kd.string 9 w' w.heap.size (fun _ => True) v0_ r ∧ Below w.heap.size w w' := by
 unfold impl_clashesIn.f at h
 by_cases hk : (l0.length + 2) * 16 ≤ 140737488355328
 ·
  rw [if_pos hk] at h
  obtain rfl := Option.some.inj h
  exact X.clashesI_calls A0 c0 l0 w hr0 hk
 ·
  rw [if_neg hk] at h
  cases h


/-! ### impl_resolveCode: function 92 -/
def impl_resolveCode.f (k : Nat) (l0 : List (S80)) (a1 : ByteArray) (a2 : Int) (a3 : ByteArray) : Option (Int) := (impl_clashesIn.f l0).bind fun t685 => ((slices_Contains_string_string.f k t685 a1).bind fun t688 => ((impl_codeIf.f (!t688) 4).bind fun t689 => (if a2 = 0 then ((impl_codeIf.f false 3).bind fun t690 => (if a3.toList = ([] : List UInt8) then ((impl_codeIf.f false 1).bind fun t691 => ((impl_firstCode.f k (([t689, t690, t691] : List Int))).bind fun t695 => (some t695))) else ((impl_codeIf.f true 1).bind fun t696 => ((impl_firstCode.f k (([t689, t690, t696] : List Int))).bind fun t700 => (some t700))))) else ((impl_isFileMode.f a2).bind fun t701 => ((impl_codeIf.f (!t701) 3).bind fun t702 => ((impl_isIdOf.f 1 a3).bind fun t703 => ((impl_codeIf.f (!t703) 1).bind fun t704 => ((impl_firstCode.f k (([t689, t702, t704] : List Int))).bind fun t708 => (some t708)))))))))
theorem impl_resolveCode.mono : ∀ a0 a1 a2 a3 k, LeO (impl_resolveCode.f k a0 a1 a2 a3) (impl_resolveCode.f (k + 1) a0 a1 a2 a3) := by
 intro a0 a1 a2 a3 k
 unfold impl_resolveCode.f
 repeat' first
   | (with_reducible exact impl_firstCode.mono _ _)
   | (with_reducible exact slices_Contains_string_string.mono _ _ _)
   | (with_reducible exact LeO.refl _)
   | (with_reducible exact LeO.none _)
   | (with_reducible refine LeO.ite ?_ ?_)
   | (with_reducible refine LeO.bind ?_ (fun _ => ?_))
   | exact impl_firstCode.mono _ _
   | exact slices_Contains_string_string.mono _ _ _
   | exact LeO.none _
   | refine LeO.ite ?_ ?_
   | refine LeO.bind ?_ (fun _ => ?_)
set_option maxHeartbeats 8000000 in
set_option maxRecDepth 100000 in
theorem impl_resolveCode.calls (k : Nat) (A0 : Option Addr) (c0 : Nat) (l0 : List (S80)) (a1 : ByteArray) (a2 : Int) (a3 : ByteArray) (r : Int) (w : World) (hr0 : Kd.C k80 w A0 l0.length l0) (hc0 : l0.length ≤ c0) (h : impl_resolveCode.f k l0 a1 a2 a3 = some r) :
  Calls Tryd.prog 92 #[.slice A0 l0.length c0, .string a1, .int .i64 a2, .string a3] w fun e w' => e = .returned (.int .i64 r) ∧ Below w.heap.size w w' := by
 have HR0 := zK hr0
 have HC0 := zK hc0
 clear hr0 hc0
 have HB := zK (Below.refl w.heap.size w)
 have H : ((impl_clashesIn.f l0).bind fun t685 => ((slices_Contains_string_string.f k t685 a1).bind fun t688 => ((impl_codeIf.f (!t688) 4).bind fun t689 => (if a2 = 0 then ((impl_codeIf.f false 3).bind fun t690 => (if a3.toList = ([] : List UInt8) then ((impl_codeIf.f false 1).bind fun t691 => ((impl_firstCode.f k (([t689, t690, t691] : List Int))).bind fun t695 => (some t695))) else ((impl_codeIf.f true 1).bind fun t696 => ((impl_firstCode.f k (([t689, t690, t696] : List Int))).bind fun t700 => (some t700))))) else ((impl_isFileMode.f a2).bind fun t701 => ((impl_codeIf.f (!t701) 3).bind fun t702 => ((impl_isIdOf.f 1 a3).bind fun t703 => ((impl_codeIf.f (!t703) 1).bind fun t704 => ((impl_firstCode.f k (([t689, t702, t704] : List Int))).bind fun t708 => (some t708)))))))))) = some r := h
 clear h
 replace H := Option.bind_eq_some_iff.mp H
 obtain ⟨t685, A50, H⟩ := H
 replace H : ((slices_Contains_string_string.f k t685 a1).bind fun t688 => ((impl_codeIf.f (!t688) 4).bind fun t689 => (if a2 = 0 then ((impl_codeIf.f false 3).bind fun t690 => (if a3.toList = ([] : List UInt8) then ((impl_codeIf.f false 1).bind fun t691 => ((impl_firstCode.f k (([t689, t690, t691] : List Int))).bind fun t695 => (some t695))) else ((impl_codeIf.f true 1).bind fun t696 => ((impl_firstCode.f k (([t689, t690, t696] : List Int))).bind fun t700 => (some t700))))) else ((impl_isFileMode.f a2).bind fun t701 => ((impl_codeIf.f (!t701) 3).bind fun t702 => ((impl_isIdOf.f 1 a3).bind fun t703 => ((impl_codeIf.f (!t703) 1).bind fun t704 => ((impl_firstCode.f k (([t689, t702, t704] : List Int))).bind fun t708 => (some t708))))))))) = some r := H
 have A5 := zK A50
 clear A50
 replace H := Option.bind_eq_some_iff.mp H
 obtain ⟨t688, A60, H⟩ := H
 replace H : ((impl_codeIf.f (!t688) 4).bind fun t689 => (if a2 = 0 then ((impl_codeIf.f false 3).bind fun t690 => (if a3.toList = ([] : List UInt8) then ((impl_codeIf.f false 1).bind fun t691 => ((impl_firstCode.f k (([t689, t690, t691] : List Int))).bind fun t695 => (some t695))) else ((impl_codeIf.f true 1).bind fun t696 => ((impl_firstCode.f k (([t689, t690, t696] : List Int))).bind fun t700 => (some t700))))) else ((impl_isFileMode.f a2).bind fun t701 => ((impl_codeIf.f (!t701) 3).bind fun t702 => ((impl_isIdOf.f 1 a3).bind fun t703 => ((impl_codeIf.f (!t703) 1).bind fun t704 => ((impl_firstCode.f k (([t689, t702, t704] : List Int))).bind fun t708 => (some t708)))))))) = some r := H
 have A6 := zK A60
 clear A60
 replace H := Option.bind_eq_some_iff.mp H
 obtain ⟨t689, A70, H⟩ := H
 replace H : (if a2 = 0 then ((impl_codeIf.f false 3).bind fun t690 => (if a3.toList = ([] : List UInt8) then ((impl_codeIf.f false 1).bind fun t691 => ((impl_firstCode.f k (([t689, t690, t691] : List Int))).bind fun t695 => (some t695))) else ((impl_codeIf.f true 1).bind fun t696 => ((impl_firstCode.f k (([t689, t690, t696] : List Int))).bind fun t700 => (some t700))))) else ((impl_isFileMode.f a2).bind fun t701 => ((impl_codeIf.f (!t701) 3).bind fun t702 => ((impl_isIdOf.f 1 a3).bind fun t703 => ((impl_codeIf.f (!t703) 1).bind fun t704 => ((impl_firstCode.f k (([t689, t702, t704] : List Int))).bind fun t708 => (some t708))))))) = some r := H
 have A7 := zK A70
 clear A70
 by_cases c8 : a2 = 0
 ·
  rw [if_pos c8] at H
  have c8b0 : (a2 == 0) = true := beq_iff_eq.mpr c8
  have c8b1 : (a2 != 0) = false := bne_eq_false_iff_eq.mpr c8
  clear c8
  replace H := Option.bind_eq_some_iff.mp H
  obtain ⟨t690, A90, H⟩ := H
  replace H : (if a3.toList = ([] : List UInt8) then ((impl_codeIf.f false 1).bind fun t691 => ((impl_firstCode.f k (([t689, t690, t691] : List Int))).bind fun t695 => (some t695))) else ((impl_codeIf.f true 1).bind fun t696 => ((impl_firstCode.f k (([t689, t690, t696] : List Int))).bind fun t700 => (some t700)))) = some r := H
  have A9 := zK A90
  clear A90
  by_cases c10 : a3.toList = ([] : List UInt8)
  ·
   rw [if_pos c10] at H
   have c10b0 : (a3.toList == ([] : List UInt8)) = true := beq_iff_eq.mpr c10
   have c10b1 : (a3.toList != ([] : List UInt8)) = false := bne_eq_false_iff_eq.mpr c10
   clear c10
   replace H := Option.bind_eq_some_iff.mp H
   obtain ⟨t691, A110, H⟩ := H
   replace H : ((impl_firstCode.f k (([t689, t690, t691] : List Int))).bind fun t695 => (some t695)) = some r := H
   have A11 := zK A110
   clear A110
   obtain ⟨y692, hy692⟩ : ∃ y_ : List Int, y_ = (([t689, t690, t691] : List Int)) := ⟨_, rfl⟩
   replace H : ((impl_firstCode.f k y692).bind fun t695 => (some t695)) = some r := by first | (rw [hy692]; with_reducible exact H) | (have H2_ := (Option.bind_some _ _).symm.trans H; rw [hy692]; with_reducible exact H2_) | (have H2_ := (Option.bind_some _ _).symm.trans H; with_reducible exact H2_) | with_reducible exact H | (rw [hy692]; exact H) | exact H
   have Ny692 := zK hy692
   clear hy692
   replace H := Option.bind_eq_some_iff.mp H
   obtain ⟨t695, A120, H⟩ := H
   replace H : (some t695) = some r := H
   have A12 := zK A120
   clear A120
   obtain rfl := Option.some.inj H
   go_enter Tryd.func92, Tryd.ntmps92
   go_wp2_with (first | ((with_reducible refine gate_callee (f := 56) rfl ?_); refine goesL_ (some 10) rfl rfl Tryd.func56 (by kernel_rfl) rfl #[.slice A0 l0.length c0] rfl (by (try simp only [List.map_toArray, List.map_cons, List.map_nil]); first | done | rfl | (simp only [List.length_drop, List.length_take]; rfl)) ?_; (with_reducible refine (impl_clashesIn.calls _ _ l0 t685 _ ?side1 ?side2 A5.out).mono ?_); (case side1 => repeat (first | exact HR0.out | (with_reducible refine Kd.C_alloc ?_ _) | (with_reducible refine Kd.C_drewN ?_ _) | (with_reducible refine Kd.C_drew ?_))); (case side2 => exact HC0.out); rintro e w13 ⟨v686, rfl, ho0, hb⟩; refine ⟨_, rfl, ?_⟩; have n0_ := zK (Kd.R_lower ho0 (below_size (by repeat (first | (with_reducible first | exact HB.out | apply zA | apply zN | apply zD) | exact HB.out)))); have n1_ := zK (below_step (by repeat (first | (with_reducible first | exact HB.out | apply zA | apply zN | apply zD) | exact HB.out)) hb); clear HB; have HO687 := n0_; have HB := n1_; clear n0_ n1_; (try clear hb); (try clear hb2); (try clear hk); (try clear hi); (try clear ho0); obtain ⟨Ao14, co14, eo14⟩ := Kd.R_slice HO687.out; subst eo14) | ((with_reducible refine gate_callee (f := 139) rfl ?_); refine goesL_ (some 12) rfl rfl Tryd.func139 (by kernel_rfl) rfl #[.slice Ao14 t685.length co14, .string a1] rfl (by (try simp only [List.map_toArray, List.map_cons, List.map_nil]); first | done | rfl | (simp only [List.length_drop, List.length_take]; rfl)) ?_; (with_reducible refine (slices_Contains_string_string.callsN k _ _ t685 a1 t688 _ ?side1 ?side2 A6.out).mono ?_); (case side1 => repeat (first | exact (Kd.R_reads' HO687.out).2.2 | (with_reducible refine Kd.C_alloc ?_ _) | (with_reducible refine Kd.C_drewN ?_ _) | (with_reducible refine Kd.C_drew ?_))); (case side2 => exact (Kd.R_reads' HO687.out).2.1); rintro e w' ⟨rfl, ⟨nd, rfl⟩⟩; refine ⟨_, rfl, ?_⟩) | ((with_reducible refine gate_callee (f := 55) rfl ?_); refine goesL_ (some 14) rfl rfl Tryd.func55 (by kernel_rfl) rfl #[.bool (!t688), .int .i64 4] rfl (by (try simp only [List.map_toArray, List.map_cons, List.map_nil]); first | done | rfl | (simp only [List.length_drop, List.length_take]; rfl)) ?_; (with_reducible refine (impl_codeIf.calls (!t688) 4 t689 _ A7.out).mono ?_); rintro e w' ⟨rfl, ⟨nd, rfl⟩⟩; refine ⟨_, rfl, ?_⟩) | ((with_reducible refine gate_callee (f := 55) rfl ?_); refine goesL_ (some 22) rfl rfl Tryd.func55 (by kernel_rfl) rfl #[.bool false, .int .i64 3] rfl (by (try simp only [List.map_toArray, List.map_cons, List.map_nil]); first | done | rfl | (simp only [List.length_drop, List.length_take]; rfl)) ?_; (with_reducible refine (impl_codeIf.calls false 3 t690 _ A9.out).mono ?_); rintro e w' ⟨rfl, ⟨nd, rfl⟩⟩; refine ⟨_, rfl, ?_⟩) | ((with_reducible refine gate_callee (f := 55) rfl ?_); refine goesL_ (some 38) rfl rfl Tryd.func55 (by kernel_rfl) rfl #[.bool false, .int .i64 1] rfl (by (try simp only [List.map_toArray, List.map_cons, List.map_nil]); first | done | rfl | (simp only [List.length_drop, List.length_take]; rfl)) ?_; (with_reducible refine (impl_codeIf.calls false 1 t691 _ A11.out).mono ?_); rintro e w' ⟨rfl, ⟨nd, rfl⟩⟩; refine ⟨_, rfl, ?_⟩) | ((with_reducible refine gate_dst (N := 39) rfl ?_); refine Kd.R_lit (Kd.int .i64) _ 2 ?hg (N := 39) ?hd (xs := ([t689, t690, t691] : List Int)) (inner := [.int .i64 t689, .int .i64 t690, .int .i64 t691]) (ok := fun _ => True) (okp := fun _ => True) ?hr ?hp (fun _ hk => hk) trivial (Below.refl _ _) (Nat.le_refl _) (by simp) ?_; (case hd => rfl); (case hg => rfl); (case hr => first | (go_simp; done) | (go_simp; rfl)); (case hp => exact (Reps.one (show Kd.M (Kd.int .i64) _ _ _ t689 [.int .i64 t689] from rfl) (Reps.one (show Kd.M (Kd.int .i64) _ _ _ t690 [.int .i64 t690] from rfl) (Reps.one (show Kd.M (Kd.int .i64) _ _ _ t691 [.int .i64 t691] from rfl) (Reps.none _ _))))); intro v693 w15 ho16 hb hg_ hnew_; clear hg_ hnew_; (first | rw [← Ny692.out] at ho16 | (simp only [Int.reduceToNat] at ho16; rw [← Ny692.out] at ho16)); have n0_ := zK (Kd.R_below (by (with_reducible repeat (first | apply zR | apply zV | apply zW)); exact HO687.out) hb); have n1_ := zK (Kd.R_lower ho16 (below_size (by repeat (first | (with_reducible first | exact HB.out | apply zA | apply zN | apply zD) | exact HB.out)))); have n2_ := zK (below_step (by repeat (first | (with_reducible first | exact HB.out | apply zA | apply zN | apply zD) | exact HB.out)) hb); clear HO687; clear HB; have HO687 := n0_; have HO694 := n1_; have HB := n2_; clear n0_ n1_ n2_; clear hb ho16; obtain ⟨Ao17, co17, eo17⟩ := Kd.R_slice HO694.out; subst eo17) | ((with_reducible refine gate_callee (f := 53) rfl ?_); refine goesL_ (some 40) rfl rfl Tryd.func53 (by kernel_rfl) rfl #[.slice Ao17 y692.length co17] rfl (by (try simp only [List.map_toArray, List.map_cons, List.map_nil]); first | done | rfl | (simp only [List.length_drop, List.length_take]; rfl)) ?_; (with_reducible refine (impl_firstCode.calls k _ _ y692 t695 _ ?side1 ?side2 A12.out).mono ?_); (case side1 => repeat (first | exact (Kd.R_reads' HO694.out).2.2 | (with_reducible refine Kd.C_alloc ?_ _) | (with_reducible refine Kd.C_drewN ?_ _) | (with_reducible refine Kd.C_drew ?_))); (case side2 => exact (Kd.R_reads' HO694.out).2.1); rintro e w' ⟨rfl, ⟨nd, rfl⟩⟩; refine ⟨_, rfl, ?_⟩))
   go_ret
   exact ⟨by first | rfl | (simp [errW_none, errW_some] <;> rfl) | (simp [*, errW_none, errW_some] <;> rfl), by repeat (first | (with_reducible first | exact HB.out | apply zA | apply zN | apply zD) | exact HB.out)⟩
  ·
   rw [if_neg c10] at H
   have c10b0 : (a3.toList == ([] : List UInt8)) = false := beq_eq_false_iff_ne.mpr c10
   have c10b1 : (a3.toList != ([] : List UInt8)) = true := bne_iff_ne.mpr c10
   replace H := Option.bind_eq_some_iff.mp H
   obtain ⟨t696, A180, H⟩ := H
   replace H : ((impl_firstCode.f k (([t689, t690, t696] : List Int))).bind fun t700 => (some t700)) = some r := H
   have A18 := zK A180
   clear A180
   obtain ⟨y697, hy697⟩ : ∃ y_ : List Int, y_ = (([t689, t690, t696] : List Int)) := ⟨_, rfl⟩
   replace H : ((impl_firstCode.f k y697).bind fun t700 => (some t700)) = some r := by first | (rw [hy697]; with_reducible exact H) | (have H2_ := (Option.bind_some _ _).symm.trans H; rw [hy697]; with_reducible exact H2_) | (have H2_ := (Option.bind_some _ _).symm.trans H; with_reducible exact H2_) | with_reducible exact H | (rw [hy697]; exact H) | exact H
   have Ny697 := zK hy697
   clear hy697
   replace H := Option.bind_eq_some_iff.mp H
   obtain ⟨t700, A190, H⟩ := H
   replace H : (some t700) = some r := H
   have A19 := zK A190
   clear A190
   obtain rfl := Option.some.inj H
   go_enter Tryd.func92, Tryd.ntmps92
   go_wp2_with (first | ((with_reducible refine gate_callee (f := 56) rfl ?_); refine goesL_ (some 10) rfl rfl Tryd.func56 (by kernel_rfl) rfl #[.slice A0 l0.length c0] rfl (by (try simp only [List.map_toArray, List.map_cons, List.map_nil]); first | done | rfl | (simp only [List.length_drop, List.length_take]; rfl)) ?_; (with_reducible refine (impl_clashesIn.calls _ _ l0 t685 _ ?side1 ?side2 A5.out).mono ?_); (case side1 => repeat (first | exact HR0.out | (with_reducible refine Kd.C_alloc ?_ _) | (with_reducible refine Kd.C_drewN ?_ _) | (with_reducible refine Kd.C_drew ?_))); (case side2 => exact HC0.out); rintro e w20 ⟨v686, rfl, ho0, hb⟩; refine ⟨_, rfl, ?_⟩; have n0_ := zK (Kd.R_lower ho0 (below_size (by repeat (first | (with_reducible first | exact HB.out | apply zA | apply zN | apply zD) | exact HB.out)))); have n1_ := zK (below_step (by repeat (first | (with_reducible first | exact HB.out | apply zA | apply zN | apply zD) | exact HB.out)) hb); clear HB; have HO687 := n0_; have HB := n1_; clear n0_ n1_; (try clear hb); (try clear hb2); (try clear hk); (try clear hi); (try clear ho0); obtain ⟨Ao21, co21, eo21⟩ := Kd.R_slice HO687.out; subst eo21) | ((with_reducible refine gate_callee (f := 139) rfl ?_); refine goesL_ (some 12) rfl rfl Tryd.func139 (by kernel_rfl) rfl #[.slice Ao21 t685.length co21, .string a1] rfl (by (try simp only [List.map_toArray, List.map_cons, List.map_nil]); first | done | rfl | (simp only [List.length_drop, List.length_take]; rfl)) ?_; (with_reducible refine (slices_Contains_string_string.callsN k _ _ t685 a1 t688 _ ?side1 ?side2 A6.out).mono ?_); (case side1 => repeat (first | exact (Kd.R_reads' HO687.out).2.2 | (with_reducible refine Kd.C_alloc ?_ _) | (with_reducible refine Kd.C_drewN ?_ _) | (with_reducible refine Kd.C_drew ?_))); (case side2 => exact (Kd.R_reads' HO687.out).2.1); rintro e w' ⟨rfl, ⟨nd, rfl⟩⟩; refine ⟨_, rfl, ?_⟩) | ((with_reducible refine gate_callee (f := 55) rfl ?_); refine goesL_ (some 14) rfl rfl Tryd.func55 (by kernel_rfl) rfl #[.bool (!t688), .int .i64 4] rfl (by (try simp only [List.map_toArray, List.map_cons, List.map_nil]); first | done | rfl | (simp only [List.length_drop, List.length_take]; rfl)) ?_; (with_reducible refine (impl_codeIf.calls (!t688) 4 t689 _ A7.out).mono ?_); rintro e w' ⟨rfl, ⟨nd, rfl⟩⟩; refine ⟨_, rfl, ?_⟩) | ((with_reducible refine gate_callee (f := 55) rfl ?_); refine goesL_ (some 22) rfl rfl Tryd.func55 (by kernel_rfl) rfl #[.bool false, .int .i64 3] rfl (by (try simp only [List.map_toArray, List.map_cons, List.map_nil]); first | done | rfl | (simp only [List.length_drop, List.length_take]; rfl)) ?_; (with_reducible refine (impl_codeIf.calls false 3 t690 _ A9.out).mono ?_); rintro e w' ⟨rfl, ⟨nd, rfl⟩⟩; refine ⟨_, rfl, ?_⟩) | ((with_reducible refine gate_callee (f := 55) rfl ?_); refine goesL_ (some 38) rfl rfl Tryd.func55 (by kernel_rfl) rfl #[.bool true, .int .i64 1] rfl (by (try simp only [List.map_toArray, List.map_cons, List.map_nil]); first | done | rfl | (simp only [List.length_drop, List.length_take]; rfl)) ?_; (with_reducible refine (impl_codeIf.calls true 1 t696 _ A18.out).mono ?_); rintro e w' ⟨rfl, ⟨nd, rfl⟩⟩; refine ⟨_, rfl, ?_⟩) | ((with_reducible refine gate_dst (N := 39) rfl ?_); refine Kd.R_lit (Kd.int .i64) _ 2 ?hg (N := 39) ?hd (xs := ([t689, t690, t696] : List Int)) (inner := [.int .i64 t689, .int .i64 t690, .int .i64 t696]) (ok := fun _ => True) (okp := fun _ => True) ?hr ?hp (fun _ hk => hk) trivial (Below.refl _ _) (Nat.le_refl _) (by simp) ?_; (case hd => rfl); (case hg => rfl); (case hr => first | (go_simp; done) | (go_simp; rfl)); (case hp => exact (Reps.one (show Kd.M (Kd.int .i64) _ _ _ t689 [.int .i64 t689] from rfl) (Reps.one (show Kd.M (Kd.int .i64) _ _ _ t690 [.int .i64 t690] from rfl) (Reps.one (show Kd.M (Kd.int .i64) _ _ _ t696 [.int .i64 t696] from rfl) (Reps.none _ _))))); intro v698 w22 ho23 hb hg_ hnew_; clear hg_ hnew_; (first | rw [← Ny697.out] at ho23 | (simp only [Int.reduceToNat] at ho23; rw [← Ny697.out] at ho23)); have n0_ := zK (Kd.R_below (by (with_reducible repeat (first | apply zR | apply zV | apply zW)); exact HO687.out) hb); have n1_ := zK (Kd.R_lower ho23 (below_size (by repeat (first | (with_reducible first | exact HB.out | apply zA | apply zN | apply zD) | exact HB.out)))); have n2_ := zK (below_step (by repeat (first | (with_reducible first | exact HB.out | apply zA | apply zN | apply zD) | exact HB.out)) hb); clear HO687; clear HB; have HO687 := n0_; have HO699 := n1_; have HB := n2_; clear n0_ n1_ n2_; clear hb ho23; obtain ⟨Ao24, co24, eo24⟩ := Kd.R_slice HO699.out; subst eo24) | ((with_reducible refine gate_callee (f := 53) rfl ?_); refine goesL_ (some 40) rfl rfl Tryd.func53 (by kernel_rfl) rfl #[.slice Ao24 y697.length co24] rfl (by (try simp only [List.map_toArray, List.map_cons, List.map_nil]); first | done | rfl | (simp only [List.length_drop, List.length_take]; rfl)) ?_; (with_reducible refine (impl_firstCode.calls k _ _ y697 t700 _ ?side1 ?side2 A19.out).mono ?_); (case side1 => repeat (first | exact (Kd.R_reads' HO699.out).2.2 | (with_reducible refine Kd.C_alloc ?_ _) | (with_reducible refine Kd.C_drewN ?_ _) | (with_reducible refine Kd.C_drew ?_))); (case side2 => exact (Kd.R_reads' HO699.out).2.1); rintro e w' ⟨rfl, ⟨nd, rfl⟩⟩; refine ⟨_, rfl, ?_⟩))
   go_ret
   exact ⟨by first | rfl | (simp [errW_none, errW_some] <;> rfl) | (simp [*, errW_none, errW_some] <;> rfl), by repeat (first | (with_reducible first | exact HB.out | apply zA | apply zN | apply zD) | exact HB.out)⟩
 ·
  rw [if_neg c8] at H
  have c8b0 : (a2 == 0) = false := beq_eq_false_iff_ne.mpr c8
  have c8b1 : (a2 != 0) = true := bne_iff_ne.mpr c8
  replace H := Option.bind_eq_some_iff.mp H
  obtain ⟨t701, A250, H⟩ := H
  replace H : ((impl_codeIf.f (!t701) 3).bind fun t702 => ((impl_isIdOf.f 1 a3).bind fun t703 => ((impl_codeIf.f (!t703) 1).bind fun t704 => ((impl_firstCode.f k (([t689, t702, t704] : List Int))).bind fun t708 => (some t708))))) = some r := H
  have A25 := zK A250
  clear A250
  replace H := Option.bind_eq_some_iff.mp H
  obtain ⟨t702, A260, H⟩ := H
  replace H : ((impl_isIdOf.f 1 a3).bind fun t703 => ((impl_codeIf.f (!t703) 1).bind fun t704 => ((impl_firstCode.f k (([t689, t702, t704] : List Int))).bind fun t708 => (some t708)))) = some r := H
  have A26 := zK A260
  clear A260
  replace H := Option.bind_eq_some_iff.mp H
  obtain ⟨t703, A270, H⟩ := H
  replace H : ((impl_codeIf.f (!t703) 1).bind fun t704 => ((impl_firstCode.f k (([t689, t702, t704] : List Int))).bind fun t708 => (some t708))) = some r := H
  have A27 := zK A270
  clear A270
  replace H := Option.bind_eq_some_iff.mp H
  obtain ⟨t704, A280, H⟩ := H
  replace H : ((impl_firstCode.f k (([t689, t702, t704] : List Int))).bind fun t708 => (some t708)) = some r := H
  have A28 := zK A280
  clear A280
  obtain ⟨y705, hy705⟩ : ∃ y_ : List Int, y_ = (([t689, t702, t704] : List Int)) := ⟨_, rfl⟩
  replace H : ((impl_firstCode.f k y705).bind fun t708 => (some t708)) = some r := by first | (rw [hy705]; with_reducible exact H) | (have H2_ := (Option.bind_some _ _).symm.trans H; rw [hy705]; with_reducible exact H2_) | (have H2_ := (Option.bind_some _ _).symm.trans H; with_reducible exact H2_) | with_reducible exact H | (rw [hy705]; exact H) | exact H
  have Ny705 := zK hy705
  clear hy705
  replace H := Option.bind_eq_some_iff.mp H
  obtain ⟨t708, A290, H⟩ := H
  replace H : (some t708) = some r := H
  have A29 := zK A290
  clear A290
  obtain rfl := Option.some.inj H
  go_enter Tryd.func92, Tryd.ntmps92
  go_wp2_with (first | ((with_reducible refine gate_callee (f := 56) rfl ?_); refine goesL_ (some 10) rfl rfl Tryd.func56 (by kernel_rfl) rfl #[.slice A0 l0.length c0] rfl (by (try simp only [List.map_toArray, List.map_cons, List.map_nil]); first | done | rfl | (simp only [List.length_drop, List.length_take]; rfl)) ?_; (with_reducible refine (impl_clashesIn.calls _ _ l0 t685 _ ?side1 ?side2 A5.out).mono ?_); (case side1 => repeat (first | exact HR0.out | (with_reducible refine Kd.C_alloc ?_ _) | (with_reducible refine Kd.C_drewN ?_ _) | (with_reducible refine Kd.C_drew ?_))); (case side2 => exact HC0.out); rintro e w30 ⟨v686, rfl, ho0, hb⟩; refine ⟨_, rfl, ?_⟩; have n0_ := zK (Kd.R_lower ho0 (below_size (by repeat (first | (with_reducible first | exact HB.out | apply zA | apply zN | apply zD) | exact HB.out)))); have n1_ := zK (below_step (by repeat (first | (with_reducible first | exact HB.out | apply zA | apply zN | apply zD) | exact HB.out)) hb); clear HB; have HO687 := n0_; have HB := n1_; clear n0_ n1_; (try clear hb); (try clear hb2); (try clear hk); (try clear hi); (try clear ho0); obtain ⟨Ao31, co31, eo31⟩ := Kd.R_slice HO687.out; subst eo31) | ((with_reducible refine gate_callee (f := 139) rfl ?_); refine goesL_ (some 12) rfl rfl Tryd.func139 (by kernel_rfl) rfl #[.slice Ao31 t685.length co31, .string a1] rfl (by (try simp only [List.map_toArray, List.map_cons, List.map_nil]); first | done | rfl | (simp only [List.length_drop, List.length_take]; rfl)) ?_; (with_reducible refine (slices_Contains_string_string.callsN k _ _ t685 a1 t688 _ ?side1 ?side2 A6.out).mono ?_); (case side1 => repeat (first | exact (Kd.R_reads' HO687.out).2.2 | (with_reducible refine Kd.C_alloc ?_ _) | (with_reducible refine Kd.C_drewN ?_ _) | (with_reducible refine Kd.C_drew ?_))); (case side2 => exact (Kd.R_reads' HO687.out).2.1); rintro e w' ⟨rfl, ⟨nd, rfl⟩⟩; refine ⟨_, rfl, ?_⟩) | ((with_reducible refine gate_callee (f := 55) rfl ?_); refine goesL_ (some 14) rfl rfl Tryd.func55 (by kernel_rfl) rfl #[.bool (!t688), .int .i64 4] rfl (by (try simp only [List.map_toArray, List.map_cons, List.map_nil]); first | done | rfl | (simp only [List.length_drop, List.length_take]; rfl)) ?_; (with_reducible refine (impl_codeIf.calls (!t688) 4 t689 _ A7.out).mono ?_); rintro e w' ⟨rfl, ⟨nd, rfl⟩⟩; refine ⟨_, rfl, ?_⟩) | (go_at_call 104; (with_reducible refine (impl_isFileMode.calls a2 t701 _ A25.out).mono ?_); rintro e w' ⟨rfl, ⟨nd, rfl⟩⟩) | ((with_reducible refine gate_callee (f := 55) rfl ?_); refine goesL_ (some 22) rfl rfl Tryd.func55 (by kernel_rfl) rfl #[.bool (!t701), .int .i64 3] rfl (by (try simp only [List.map_toArray, List.map_cons, List.map_nil]); first | done | rfl | (simp only [List.length_drop, List.length_take]; rfl)) ?_; (with_reducible refine (impl_codeIf.calls (!t701) 3 t702 _ A26.out).mono ?_); rintro e w' ⟨rfl, ⟨nd, rfl⟩⟩; refine ⟨_, rfl, ?_⟩) | (go_at_call 105; (with_reducible refine (impl_isIdOf.calls 1 a3 t703 _ A27.out).mono ?_); rintro e w32 ⟨rfl, hb⟩; have n0_ := zK (Kd.R_below (by (with_reducible repeat (first | apply zR | apply zV | apply zW)); exact HO687.out) hb); have n1_ := zK (below_step (by repeat (first | (with_reducible first | exact HB.out | apply zA | apply zN | apply zD) | exact HB.out)) hb); clear HO687; clear HB; have HO687 := n0_; have HB := n1_; clear n0_ n1_; (try clear hb); (try clear hb2); (try clear hk); (try clear hi)) | ((with_reducible refine gate_callee (f := 55) rfl ?_); refine goesL_ (some 38) rfl rfl Tryd.func55 (by kernel_rfl) rfl #[.bool (!t703), .int .i64 1] rfl (by (try simp only [List.map_toArray, List.map_cons, List.map_nil]); first | done | rfl | (simp only [List.length_drop, List.length_take]; rfl)) ?_; (with_reducible refine (impl_codeIf.calls (!t703) 1 t704 _ A28.out).mono ?_); rintro e w' ⟨rfl, ⟨nd, rfl⟩⟩; refine ⟨_, rfl, ?_⟩) | ((with_reducible refine gate_dst (N := 39) rfl ?_); refine Kd.R_lit (Kd.int .i64) _ 2 ?hg (N := 39) ?hd (xs := ([t689, t702, t704] : List Int)) (inner := [.int .i64 t689, .int .i64 t702, .int .i64 t704]) (ok := fun _ => True) (okp := fun _ => True) ?hr ?hp (fun _ hk => hk) trivial (Below.refl _ _) (Nat.le_refl _) (by simp) ?_; (case hd => rfl); (case hg => rfl); (case hr => first | (go_simp; done) | (go_simp; rfl)); (case hp => exact (Reps.one (show Kd.M (Kd.int .i64) _ _ _ t689 [.int .i64 t689] from rfl) (Reps.one (show Kd.M (Kd.int .i64) _ _ _ t702 [.int .i64 t702] from rfl) (Reps.one (show Kd.M (Kd.int .i64) _ _ _ t704 [.int .i64 t704] from rfl) (Reps.none _ _))))); intro v706 w33 ho34 hb hg_ hnew_; clear hg_ hnew_; (first | rw [← Ny705.out] at ho34 | (simp only [Int.reduceToNat] at ho34; rw [← Ny705.out] at ho34)); have n0_ := zK (Kd.R_below (by (with_reducible repeat (first | apply zR | apply zV | apply zW)); exact HO687.out) hb); have n1_ := zK (Kd.R_lower ho34 (below_size (by repeat (first | (with_reducible first | exact HB.out | apply zA | apply zN | apply zD) | exact HB.out)))); have n2_ := zK (below_step (by repeat (first | (with_reducible first | exact HB.out | apply zA | apply zN | apply zD) | exact HB.out)) hb); clear HO687; clear HB; have HO687 := n0_; have HO707 := n1_; have HB := n2_; clear n0_ n1_ n2_; clear hb ho34; obtain ⟨Ao35, co35, eo35⟩ := Kd.R_slice HO707.out; subst eo35) | ((with_reducible refine gate_callee (f := 53) rfl ?_); refine goesL_ (some 40) rfl rfl Tryd.func53 (by kernel_rfl) rfl #[.slice Ao35 y705.length co35] rfl (by (try simp only [List.map_toArray, List.map_cons, List.map_nil]); first | done | rfl | (simp only [List.length_drop, List.length_take]; rfl)) ?_; (with_reducible refine (impl_firstCode.calls k _ _ y705 t708 _ ?side1 ?side2 A29.out).mono ?_); (case side1 => repeat (first | exact (Kd.R_reads' HO707.out).2.2 | (with_reducible refine Kd.C_alloc ?_ _) | (with_reducible refine Kd.C_drewN ?_ _) | (with_reducible refine Kd.C_drew ?_))); (case side2 => exact (Kd.R_reads' HO707.out).2.1); rintro e w' ⟨rfl, ⟨nd, rfl⟩⟩; refine ⟨_, rfl, ?_⟩))
  go_ret
  exact ⟨by first | rfl | (simp [errW_none, errW_some] <;> rfl) | (simp [*, errW_none, errW_some] <;> rfl), by repeat (first | (with_reducible first | exact HB.out | apply zA | apply zN | apply zD) | exact HB.out)⟩

end Go.Proofs.YtjibadlbiapcmaaDoor.PX
