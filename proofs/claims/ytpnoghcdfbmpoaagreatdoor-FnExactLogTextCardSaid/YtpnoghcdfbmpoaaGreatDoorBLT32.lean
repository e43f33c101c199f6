/- Texts of this claim set one behind another by wip/bundle.py: XClashPut. -/
import Derived.Test.YtpnoghcdfbmpoaaGreatDoorBLT28
import Derived.Test.YtpnoghcdfbmpoaaGreatDoorBLT15
import Derived.Test.YtpnoghcdfbmpoaaGreatDoorBLT26
import Derived.Test.YtpnoghcdfbmpoaaGreatDoorBLT10
import Derived.Test.YtpnoghcdfbmpoaaGreatDoorBLT6
import Derived.Deep.RegionHeld3
namespace Go.Proofs.YtpnoghcdfbmpoaaGreatDoor.PX.X
open Go Go.RowKit Go.Lib Go.Proofs.YtpnoghcdfbmpoaaGreatDoorW.PrintWords Go.Proofs.YtpnoghcdfbmpoaaGreatDoor.PX
set_option linter.unusedVariables false
set_option linter.unusedSimpArgs false
theorem toList_data (a : ByteArray) : a.toList = a.data.toList := YtpnoghcdfbmpoaaGreatDoorX.toList_eq a
theorem putL_in {x s : ByteArray} {l : List ByteArray} (h : lessB x s = true) : putL (x :: l) s = x :: putL l s := by
 show (if lessB x s = true then x :: putL l s else if x = s then x :: l else s :: x :: l) = _
 rw [if_pos h]
theorem putL_eq {s : ByteArray} {l : List ByteArray} : putL (s :: l) s = s :: l := by
 show (if lessB s s = true then s :: putL l s else if s = s then s :: l else s :: s :: l) = _
 rw [if_neg (by rw [lessB_irrefl]; decide), if_pos rfl]
theorem putL_new {x s : ByteArray} {l : List ByteArray} (h : ¬ lessB x s = true) (he : ¬ x = s) : putL (x :: l) s = s :: x :: l := by
 show (if lessB x s = true then x :: putL l s else if x = s then x :: l else s :: x :: l) = _
 rw [if_neg h, if_neg he]
theorem grown_at {W w1 : World} {row : Option Nat} (hg : W.grownBy w1 row) (n : Nat) (hr : row = some n) (m : Nat) (hm : m < W.heap.size) (hne : m ≠ n) : w1.heap[m]? = W.heap[m]? :=
 hg.block m hm (by rw [hr]; exact fun e => hne (Option.some.inj e))
theorem size_two (W : World) (a b : Obj) : ((W.alloc a).alloc b).drew.heap.size = W.heap.size + 2 := by
 show ((W.heap.push a).push b).size = _
 rw [Array.size_push, Array.size_push]
theorem C_takeK {w : World} {A : Option Addr} {l : List ByteArray} {m : Nat} (h : Kd.C Kd.string w A l.length l) (hm : m ≤ l.length) : Kd.C Kd.string w A m (l.take m) := by
 have h2 := Kd.C_take h hm
 rw [List.length_take, Nat.min_eq_left hm] at h2
 exact h2
theorem C_dropK {w : World} {A : Option Addr} {l : List ByteArray} {m c : Nat} (h : Kd.C Kd.string w A l.length l) (hm : m ≤ l.length) (hc : l.length ≤ c) : Kd.C Kd.string w (if c = m then A else A.map (·.add m)) (l.length - m) (l.drop m) := by
 have h2 := Kd.C_drop h hm hc
 rw [List.length_drop, show Kd.string.sz = 1 from rfl, Nat.mul_one] at h2
 exact h2
theorem C_one_of {W : World} {m : Nat} {s : ByteArray} (h : W.heap[m]? = some (.cells #[.string s] 9 (0, 0))) : Kd.C Kd.string W (some ⟨m, 0, none⟩) 1 [s] := by
 refine Kd.C_of_reads (d := ByteArray.empty) ⟨rfl, by decide, fun _ => ⟨_, rfl, fun j hj => ?_⟩⟩
 match j, hj with
 | 0, _ => exact (blk_cell h 0).trans rfl
theorem R_empty_of {W : World} {n B : Nat} (hn : B ≤ n) (h : W.heap[n]? = some (.cells #[] 9 (0, 0))) : Kd.R Kd.string 9 W B (fun _ => True) (.slice (some ⟨n, 0, none⟩) 0 0) [] := by
 refine ⟨fun _ _ => trivial, [], ⟨rfl, .inr ⟨n, 0, #[], rfl, hn, h, Nat.le_refl _, by decide, rfl, rfl⟩⟩, Reps.none _ _⟩
theorem blk_new1 (W : World) (a b : Obj) : ((W.alloc a).alloc b).heap[W.heap.size + 1]? = some b := by
 have h := blk_new (W.alloc a) b
 have e : (W.alloc a).heap.size = W.heap.size + 1 := Array.size_push _
 rw [e] at h
 exact h
set_option maxHeartbeats 4000000 in
set_option maxRecDepth 8000 in
theorem put_calls (B : Nat) (v : Value) (l : List ByteArray) (s : ByteArray) (w : World) (hR : Kd.R Kd.string 9 w B (fun _ => True) v l) (hB : B ≤ w.heap.size) (hl : (l.length + 1) * 16 ≤ 140737488355328) :
 Calls Tryz.prog 60 #[v, .string s] w fun e w' => ∃ v', e = .returned v' ∧ Kd.R Kd.string 9 w' B (fun _ => True) v' (putL l s) ∧ Below w.heap.size w w' := by
 obtain ⟨A, c, rfl, hc, hC⟩ := Kd.R_reads hR
 have HR := Lib.hid hR
 have HC := Lib.hid hC
 clear hR hC
 have hcz : (l.length : Int) ≤ (c : Int) := by omega
 go_enter Tryz.func60, Tryz.ntmps60
 go_wp2
 go_loopg [5] l.length (fun gg s5 wr => ∃ kk : Nat, kk ≤ l.length ∧ l.length - kk ≤ gg ∧ s5 = .int .i64 kk ∧ wr = w ∧ Aside (putL l s = l.take kk ++ putL (l.drop kk) s))
 case atStart => exact ⟨0, Nat.zero_le _, by omega, rfl, rfl, rfl⟩
 case round =>
  obtain ⟨kk, hkk, hg, rfl, rfl, HP⟩ := hrel
  have hkz : (0 : Int) ≤ (kk : Int) := by omega
  by_cases hlt : kk < l.length
  · have hltz : (kk : Int) < (l.length : Int) := by omega
    have hltb : decide ((kk : Int) < (l.length : Int)) = true := decide_eq_true hltz
    obtain ⟨ad, rfl, hcell⟩ := Kd.at_string HC.out (kk : Int) hkz hltz
    rw [Int.toNat_natCast] at hcell
    have hx : rdOf ByteArray.empty l (kk : Int) = l[kk] := by
     show l.getD ((kk : Int)).toNat _ = _
     rw [Int.toNat_natCast, List.getD_eq_getElem?_getD, List.getElem?_eq_getElem hlt, Option.getD_some]
    have hdrop : l.drop kk = l[kk] :: l.drop (kk + 1) := List.drop_eq_getElem_cons hlt
    have htake : l.take (kk + 1) = l.take kk ++ [l[kk]] := List.take_succ_eq_append_getElem hlt
    have hp := HP.out
    rw [hdrop] at hp
    rw [hx] at hcell
    have hwhole : l.take kk ++ l[kk] :: l.drop (kk + 1) = l := by rw [← hdrop]; exact List.take_append_drop kk l
    clear HP hx
    have HD := Lib.hid hdrop
    clear hdrop
    generalize l[kk] = x at hcell hp htake hwhole HD
    have HT := Lib.hid htake
    have HPP := Lib.hid hp
    have HW := Lib.hid hwhole
    clear htake hp hwhole
    by_cases hless : lessB x s = true
    · have hb : Op.bytesLess x.toList s.toList = true := by rw [toList_data, toList_data]; exact hless
      go_wp2
      go_roundg (l.length - (kk + 1))
      case measure => omega
      case rel => exact ⟨kk + 1, by omega, Nat.le_refl _, by go_num, rfl, by rw [HPP.out, putL_in hless, HT.out, List.append_assoc]; rfl⟩
    · have hb : Op.bytesLess x.toList s.toList = false := by rw [toList_data, toList_data]; exact Bool.eq_false_iff.mpr hless
      by_cases heq : x = s
      · subst heq
        have he : (x.toList == x.toList) = true := beq_self_eq_true _
        go_wp2
        go_ret
        refine ⟨_, rfl, ?_, Below.refl _ _⟩
        rw [HPP.out, putL_eq, HW.out]
        exact HR.out
      · have he : (x.toList == s.toList) = false := beq_eq_false_iff_ne.mpr (fun h => heq (by rw [toList_data, toList_data] at h; exact dataL_inj h))
        have hput : putL l s = (l.take kk ++ [s]) ++ l.drop kk := by
         rw [HPP.out, putL_new hless heq, HD.out, List.append_assoc]
         rfl
        have HPU := Lib.hid hput
        clear hput
        go_wp2
        have hkc : (kk : Int) ≤ (c : Int) := by omega
        have hkl : (kk : Int) ≤ (l.length : Int) := by omega
        have hk1 : ((kk : Int)).toNat = kk := Int.toNat_natCast kk
        have hK0 : Below wr.heap.size wr wr.drew := (Below.refl _ _).drew
        go_region_held3 (fun w' => Below wr.heap.size wr w') ((with_reducible repeat (first | assumption | exact Below.refl _ _ | apply below_alloc | apply pw_below_drewN | apply below_drew1)))
         (first
           | (refine Kd.R_append_rows_step Kd.string (w0 := wr) wr.heap.size zq19 (.tmp 33) (.tmp 36) 29 9 (.string ⟨#[]⟩) 16 zq19 Tryz.underlying29 info9 rfl zq9 zq9 _ ([] : List ByteArray) (l.take kk) _ kk c (fun _ => True) (fun _ => False) zq19 zq19 ?aO ?aR (fun _ _ h => h) (fun _ h => h.elim) (fun _ _ => trivial) ?aB ?aS ?aL ?_
              (case aO => exact R_empty_of zq24 (by with_reducible repeat (first | exact blk_new _ _ | exact blk_new1 _ _ _ | refine blk_drew ?_ | refine blk_alloc ?_ _)))
              (case aR => exact C_takeK (Kd.C_below HC.out zq4) hkk)
              (case aB => exact zq4)
              (case aS => exact below_size zq4)
              (case aL => simp only [List.length_nil]; omega)
              intro v1 w1 ho1 hb1 hg1 hat1
              clear hat1)
           | (refine Kd.R_append_rows_step Kd.string (w0 := wr) wr.heap.size zq19 (.tmp 37) (.tmp 39) 29 9 (.string ⟨#[]⟩) 16 zq19 Tryz.underlying29 info9 rfl zq9 zq9 v1 ([] ++ l.take kk) [s] _ 1 1 (fun _ => True) (fun _ => False) zq19 zq19 ?aO ?aR (fun _ _ h => h) (fun _ h => h.elim) (fun _ _ => trivial) ?aB ?aS ?aL ?_
              (case aO => exact (by with_reducible repeat (first | exact ho1 | apply Kd.R_alloc | apply Kd.R_drewN | apply Kd.R_drew)))
              (case aR => refine C_one_of ?_; first | ((with_reducible repeat (first | exact blk_new _ _ | exact blk_new1 _ _ _ | refine blk_drew ?_ | refine blk_alloc ?_ _)); done) | (refine (grown_at hg1 _ rfl _ (by rw [size_two]; omega) zq15).trans ?_; (with_reducible repeat (first | exact blk_new _ _ | exact blk_new1 _ _ _ | refine blk_drew ?_ | refine blk_alloc ?_ _)); done))
              (case aB => exact zq4)
              (case aS => exact below_size zq4)
              (case aL => rw [List.nil_append, List.length_take]; omega)
              clear ho1 hg1
              intro v2 w2 ho2 hb2 hg2 hat2
              clear hg2 hat2)
           | (refine Kd.R_append_rows_step Kd.string (w0 := wr) wr.heap.size zq19 (.tmp 40) (.tmp 43) 29 9 (.string ⟨#[]⟩) 16 zq19 Tryz.underlying29 info9 rfl zq9 zq9 v2 ([] ++ l.take kk ++ [s]) (l.drop kk) _ (l.length - kk) (c - kk) (fun _ => True) (fun _ => False) zq19 zq19 ?aO ?aR (fun _ _ h => h) (fun _ h => h.elim) (fun _ _ => trivial) ?aB ?aS ?aL ?_
              (case aO => exact (by with_reducible repeat (first | exact ho2 | apply Kd.R_alloc | apply Kd.R_drewN | apply Kd.R_drew)))
              (case aR => exact C_dropK (Kd.C_below HC.out zq4) hkk hc)
              (case aB => exact zq4)
              (case aS => exact below_size zq4)
              (case aL => rw [List.nil_append, List.length_append, List.length_take, List.length_singleton]; omega)
              clear ho2
              intro v3 w3 ho3 hb3 hg3 hat3
              clear hg3 hat3))
        all_goals go_wp2
        all_goals (
         go_ret
         rw [List.nil_append] at ho3
         refine ⟨v3, rfl, ?_, hb3⟩
         rw [HPU.out]
         exact Kd.R_lower ho3 hB)
  · have hke : kk = l.length := by omega
    have hltb : decide ((kk : Int) < (l.length : Int)) = false := decide_eq_false zq7
    have hput : putL l s = (l.take kk ++ [s]) ++ l.drop kk := by
     rw [HP.out, hke, List.drop_length]
     simp [putL]
    have HPU := Lib.hid hput
    clear hput HP hke
    go_wp2
    have hkc : (kk : Int) ≤ (c : Int) := by omega
    have hkl : (kk : Int) ≤ (l.length : Int) := by omega
    have hk1 : ((kk : Int)).toNat = kk := Int.toNat_natCast kk
    have hK0 : Below wr.heap.size wr wr.drew := (Below.refl _ _).drew
    go_region_held3 (fun w' => Below wr.heap.size wr w') ((with_reducible repeat (first | assumption | exact Below.refl _ _ | apply below_alloc | apply pw_below_drewN | apply below_drew1)))
     (first
       | (refine Kd.R_append_rows_step Kd.string (w0 := wr) wr.heap.size zq19 (.tmp 33) (.tmp 36) 29 9 (.string ⟨#[]⟩) 16 zq19 Tryz.underlying29 info9 rfl zq9 zq9 _ ([] : List ByteArray) (l.take kk) _ kk c (fun _ => True) (fun _ => False) zq19 zq19 ?aO ?aR (fun _ _ h => h) (fun _ h => h.elim) (fun _ _ => trivial) ?aB ?aS ?aL ?_
          (case aO => exact R_empty_of zq24 (by with_reducible repeat (first | exact blk_new _ _ | exact blk_new1 _ _ _ | refine blk_drew ?_ | refine blk_alloc ?_ _)))
          (case aR => exact C_takeK (Kd.C_below HC.out zq4) hkk)
          (case aB => exact zq4)
          (case aS => exact below_size zq4)
          (case aL => simp only [List.length_nil]; omega)
          intro v1 w1 ho1 hb1 hg1 hat1
          clear hat1)
       | (refine Kd.R_append_rows_step Kd.string (w0 := wr) wr.heap.size zq19 (.tmp 37) (.tmp 39) 29 9 (.string ⟨#[]⟩) 16 zq19 Tryz.underlying29 info9 rfl zq9 zq9 v1 ([] ++ l.take kk) [s] _ 1 1 (fun _ => True) (fun _ => False) zq19 zq19 ?aO ?aR (fun _ _ h => h) (fun _ h => h.elim) (fun _ _ => trivial) ?aB ?aS ?aL ?_
          (case aO => exact (by with_reducible repeat (first | exact ho1 | apply Kd.R_alloc | apply Kd.R_drewN | apply Kd.R_drew)))
          (case aR => refine C_one_of ?_; first | ((with_reducible repeat (first | exact blk_new _ _ | exact blk_new1 _ _ _ | refine blk_drew ?_ | refine blk_alloc ?_ _)); done) | (refine (grown_at hg1 _ rfl _ (by rw [size_two]; omega) zq15).trans ?_; (with_reducible repeat (first | exact blk_new _ _ | exact blk_new1 _ _ _ | refine blk_drew ?_ | refine blk_alloc ?_ _)); done))
          (case aB => exact zq4)
          (case aS => exact below_size zq4)
          (case aL => rw [List.nil_append, List.length_take]; omega)
          clear ho1 hg1
          intro v2 w2 ho2 hb2 hg2 hat2
          clear hg2 hat2)
       | (refine Kd.R_append_rows_step Kd.string (w0 := wr) wr.heap.size zq19 (.tmp 40) (.tmp 43) 29 9 (.string ⟨#[]⟩) 16 zq19 Tryz.underlying29 info9 rfl zq9 zq9 v2 ([] ++ l.take kk ++ [s]) (l.drop kk) _ (l.length - kk) (c - kk) (fun _ => True) (fun _ => False) zq19 zq19 ?aO ?aR (fun _ _ h => h) (fun _ h => h.elim) (fun _ _ => trivial) ?aB ?aS ?aL ?_
          (case aO => exact (by with_reducible repeat (first | exact ho2 | apply Kd.R_alloc | apply Kd.R_drewN | apply Kd.R_drew)))
          (case aR => exact C_dropK (Kd.C_below HC.out zq4) hkk hc)
          (case aB => exact zq4)
          (case aS => exact below_size zq4)
          (case aL => rw [List.nil_append, List.length_append, List.length_take, List.length_singleton]; omega)
          clear ho2
          intro v3 w3 ho3 hb3 hg3 hat3
          clear hg3 hat3))
    all_goals go_wp2
    all_goals (
     go_ret
     rw [List.nil_append] at ho3
     refine ⟨v3, rfl, ?_, hb3⟩
     rw [HPU.out]
     exact Kd.R_lower ho3 hB)
end Go.Proofs.YtpnoghcdfbmpoaaGreatDoor.PX.X
