/- Texts of this claim set one behind another by wip/bundle.py: XSortF, XReadG. -/
import Derived.Test.YtkjgnnhpjcofiaaGreatDoorBReadFiles23
import Derived.Test.YtkjgnnhpjcofiaaGreatDoorBReadFiles35
import Derived.Test.YtkjgnnhpjcofiaaGreatDoorBReadFiles4
import Derived.IntWalk
import Derived.Deep.RegionHeld3
import Derived.Test.YtkjgnnhpjcofiaaGreatDoorBReadFiles24
namespace Go.Proofs.YtkjgnnhpjcofiaaGreatDoor.PX.X
open Go Go.RowKit Go.Lib Go.Proofs.YtkjgnnhpjcofiaaGreatDoorW.PrintWords Go.Proofs.YtkjgnnhpjcofiaaGreatDoor.PX
set_option linter.unusedVariables false
set_option linter.unusedSimpArgs false
theorem C_oneF {W : World} {m : Nat} {x : FileT} (h : W.heap[m]? = some (.cells #[.string x.f0, .int .i64 x.f1, .string x.f2] 75 (0, 0))) : Kd.C k75 W (some ⟨m, 0, none⟩) 1 [x] := by
 refine ⟨rfl, by decide, fun _ => ⟨_, rfl, fun j p hj => ?_⟩⟩
 match j, hj with
 | 0, hj =>
   have e : x = p := Option.some.inj hj
   subst e
   refine ⟨[.string x.f0, .int .i64 x.f1, .string x.f2], rfl, ⟨_, _, rfl, rfl, ⟨_, _, rfl, rfl, rfl⟩⟩, fun i u hu => ?_⟩
   match i, hu with
   | 0, hu => rw [← Option.some.inj hu]; exact (blk_cell h 0).trans rfl
   | 1, hu => rw [← Option.some.inj hu]; exact (blk_cell h 1).trans rfl
   | 2, hu => rw [← Option.some.inj hu]; exact (blk_cell h 2).trans rfl
   | i + 3, hu => simp at hu
 | j + 1, hj => simp at hj
theorem R_emptyF {W : World} {n B : Nat} (hn : B ≤ n) (h : W.heap[n]? = some (.cells #[] 75 (0, 0))) : Kd.R k75 75 W B (fun _ => True) (.slice (some ⟨n, 0, none⟩) 0 0) [] := by
 refine ⟨fun _ _ => trivial, [], ⟨rfl, .inr ⟨n, 0, #[], rfl, hn, h, Nat.le_refl _, by decide, rfl, rfl⟩⟩, Reps.none _ _⟩
theorem C_takeF {w : World} {A : Option Addr} {l : List FileT} {m : Nat} (h : Kd.C k75 w A l.length l) (hm : m ≤ l.length) : Kd.C k75 w A m (l.take m) := by
 have h2 := Kd.C_take h hm
 rw [List.length_take, Nat.min_eq_left hm] at h2
 exact h2
theorem C_dropF {w : World} {A : Option Addr} {l : List FileT} {m c : Nat} (h : Kd.C k75 w A l.length l) (hm : m ≤ l.length) (hc : l.length ≤ c) : Kd.C k75 w (if c = m then A else A.map (·.add (m * 3))) (l.length - m) (l.drop m) := by
 have h2 := Kd.C_drop h hm hc
 rw [List.length_drop, show (k75 : Kd FileT).sz = 3 from rfl] at h2
 exact h2
theorem keepF {a b c : Addr} {va vb vc : Value} {W w' : World} (h0 : W.cell? a = some va) (h1 : W.cell? b = some vb) (h2 : W.cell? c = some vc) (hb : Below W.heap.size W w') : w'.cell? a = some va ∧ w'.cell? b = some vb ∧ w'.cell? c = some vc ∧ Below W.heap.size W w' :=
 ⟨(hb.cell (World.block_lt_of_cell? W _ h0)).trans h0, (hb.cell (World.block_lt_of_cell? W _ h1)).trans h1, (hb.cell (World.block_lt_of_cell? W _ h2)).trans h2, hb⟩
set_option maxHeartbeats 1000000 in
set_option maxRecDepth 8000 in
theorem sortF_calls (A0 : Option Addr) (c0 : Nat) (l0 : List FileT) (w : World) (hr0 : Kd.C k75 w A0 l0.length l0) (hbig : l0.length ≤ 1048576) :
 Calls Tryz.prog 74 #[.slice A0 l0.length c0] w fun e w' => ∃ v, e = .returned v ∧ Kd.R k75 75 w' w.heap.size (fun _ => True) v (sortF l0) ∧ Below w.heap.size w w' := by
 have HR := Lib.hid hr0
 clear hr0
 go_enter Tryz.func74, Tryz.ntmps74
 go_wp2_with (first | ((with_reducible refine gate_dst (N := 6) rfl ?_); refine Kd.R_lit k75 _ 75 ?hg (N := 6) ?hd (xs := ([] : List FileT)) (inner := []) (ok := fun _ => True) (okp := fun _ => True) ?hr ?hp (fun _ hk => hk) trivial (Below.refl _ _) (Nat.le_refl _) zq16 ?_; (case hd => rfl); (case hg => rfl); (case hr => first | (go_simp; done) | (go_simp; rfl)); (case hp => exact (Reps.none _ _)); intro v3 w2 ho3 hb2 hg_ hnew_; clear hg_ hnew_; have HO := Lib.hid ho3; have HB2 := Lib.hid hb2; clear ho3 hb2))
 go_loopg [3, 4] l0.length (fun gg s3 s4 wr => ∃ kk : Nat, kk ≤ l0.length ∧ l0.length - kk ≤ gg ∧ s4 = .int .i64 kk ∧ Aside (Kd.R k75 75 wr w.heap.size (fun _ => True) s3 (sortF (l0.take kk))) ∧ Aside (Below w.heap.size w wr))
 case atStart => exact ⟨0, Nat.zero_le _, by omega, rfl, HO.out, HB2.out⟩
 case round =>
  obtain ⟨kk, hkk, hg, rfl, AO, AB⟩ := hrel
  clear HO HB2
  have hkz : (0 : Int) ≤ (kk : Int) := by omega
  by_cases hlt : kk < l0.length
  · have hltz : (kk : Int) < (l0.length : Int) := by omega
    obtain ⟨ad, rfl, q0, q1, q2⟩ := at_T75 HR.out (kk : Int) hkz hltz
    rw [Int.toNat_natCast] at q0 q1 q2
    have hx : rd_T75 l0 (kk : Int) = l0[kk] := by
     show l0.getD ((kk : Int)).toNat _ = _
     rw [Int.toNat_natCast, List.getD_eq_getElem?_getD, List.getElem?_eq_getElem hlt, Option.getD_some]
    have htake : sortF (l0.take (kk + 1)) = insF (sortF (l0.take kk)) l0[kk] := by
     rw [List.take_succ_eq_append_getElem hlt, sortF_snoc]
    have hlen : (sortF (l0.take kk)).length = kk := by
     have := sortF_len (l0.take kk) []
     rw [List.length_take] at this
     unfold sortF
     rw [this, List.length_nil]
     omega
    rw [hx] at q0 q1 q2
    clear hx
    generalize l0[kk] = x at q0 q1 q2 htake
    generalize sortF (l0.take kk) = out at AO htake hlen
    obtain ⟨A3, c3, hv3, hc3, hC3⟩ := Kd.R_reads AO.out
    subst hv3
    have HT := Lib.hid htake
    have HL := Lib.hid hlen
    have HC3 := Lib.hid hc3
    have hcz3 : (out.length : Int) ≤ (c3 : Int) := by omega
    clear htake hlen hc3 hC3
    have Q0 := Lib.hid q0
    have Q1 := Lib.hid q1
    have Q2 := Lib.hid q2
    clear q0 q1 q2
    go_wp2
    go_loopg [5] (out.length + 1) (fun gg s5 w3 => ∃ n : Nat, n ≤ out.length ∧ n ≤ gg ∧ s5 = .int .i64 n ∧ Aside (placeF out x.f0 out.length = placeF out x.f0 n) ∧ Aside (Kd.R k75 75 w3 w.heap.size (fun _ => True) (.slice A3 out.length c3) out) ∧ Aside (Below w.heap.size w w3))
    case atStart => exact ⟨out.length, Nat.le_refl _, by omega, rfl, rfl, AO.out, AB.out⟩
    case round =>
     obtain ⟨n, hn, hg2, rfl, AP, AO3, AB3⟩ := hrel
     clear AO AB
     have q0 := (AB3.out.cell (World.block_lt_of_cell? w _ Q0.out)).trans Q0.out
     have q1 := (AB3.out.cell (World.block_lt_of_cell? w _ Q1.out)).trans Q1.out
     have q2 := (AB3.out.cell (World.block_lt_of_cell? w _ Q2.out)).trans Q2.out
     have hr3 := (Kd.R_reads' AO3.out).2.2
     by_cases hpos : 0 < n
     · obtain ⟨m, hm⟩ : ∃ m, n = m + 1 := ⟨n - 1, by omega⟩
       have hmz : (0 : Int) ≤ (m : Int) := by omega
       have hml : (m : Int) < (out.length : Int) := by omega
       have hgt : (n : Int) > 0 := by omega
       have hws : IntKind.i64.wrap ((n : Int) - 1) = (m : Int) := (IntWalk.i64_in _ (by have h1 := HL.out; omega)).trans zq7
       obtain ⟨a3, rfl, r0, r1, r2⟩ := at_T75 hr3 (m : Int) hmz hml
       have hy : rd_T75 out (m : Int) = out.getD m z75 := by
        show out.getD ((m : Int)).toNat _ = _
        rw [Int.toNat_natCast]
       have hp : placeF out x.f0 n = if lessB x.f0 (out.getD m z75).f0 = true then placeF out x.f0 m else n := by rw [hm]; rfl
       rw [hy] at r0
       rw [Int.toNat_natCast] at r0
       clear r1 r2 hy hr3
       generalize out.getD m z75 = y at r0 hp
       have HP := Lib.hid hp
       have HM := Lib.hid hm
       clear hp hm
       have hK0 : wr.drew.cell? (a3.add (m * 3)) = some (.string y.f0) ∧ wr.drew.cell? (ad.add (kk * 3)) = some (.string x.f0) ∧ Below wr.heap.size wr wr.drew := ⟨r0, q0, below_drew1 (Below.refl _ _)⟩
       clear q1 q2
       by_cases hless : lessB x.f0 y.f0 = true
       · have hb : Op.bytesLess x.f0.toList y.f0.toList = true := by rw [toList_data, toList_data]; exact hless
         go_wp2
         go_region_held3 (fun w' => w'.cell? (a3.add (m * 3)) = some (.string y.f0) ∧ w'.cell? (ad.add (kk * 3)) = some (.string x.f0) ∧ Below wr.heap.size wr w') (with_reducible first | assumption) ((fail))
         have OR4 := Lib.hid (Kd.R_below AO3.out (below_drew1 (Below.refl wr.heap.size wr)))
         have AB4 := Lib.hid (show Below w.heap.size w wr.drew from AB3.out.drew)
         generalize wr.drew = W4 at OR4 AB4 ⊢
         clear hK0 r0 q0
         go_wp2
         go_roundg m
         case measure => have := HM.out; omega
         case rel => exact ⟨m, by have := HM.out; omega, Nat.le_refl _, by go_num, AP.out.trans (HP.out.trans (if_pos hless)), OR4.out, AB4.out⟩
       · have hb : Op.bytesLess x.f0.toList y.f0.toList = false := by rw [toList_data, toList_data]; exact Bool.eq_false_iff.mpr hless
         go_wp2
         go_region_held3 (fun w' => w'.cell? (a3.add (m * 3)) = some (.string y.f0) ∧ w'.cell? (ad.add (kk * 3)) = some (.string x.f0) ∧ Below wr.heap.size wr w') (with_reducible first | assumption) ((fail))
         have OR4 := Lib.hid (Kd.R_below AO3.out (below_drew1 (Below.refl wr.heap.size wr)))
         have AB4 := Lib.hid (show Below w.heap.size w wr.drew from AB3.out.drew)
         have hpl : placeF out x.f0 out.length = n := AP.out.trans (HP.out.trans (if_neg hless))
         rename_i hHeldZ
         clear hHeldZ
         generalize wr.drew = W4 at OR4 AB4 ⊢
         clear hK0 r0 q0
         have HPL := Lib.hid hpl
         have HCO := Lib.hid (Kd.R_reads' OR4.out).2.2
         have HC3' := HC3.out
         clear hpl
         have hnc : (n : Int) ≤ (c3 : Int) := by omega
         have hnl : (n : Int) ≤ (out.length : Int) := by omega
         have hnn : n ≤ out.length := by omega
         have x0 := (AB4.out.cell (World.block_lt_of_cell? w _ Q0.out)).trans Q0.out
         have x1 := (AB4.out.cell (World.block_lt_of_cell? w _ Q1.out)).trans Q1.out
         have x2 := (AB4.out.cell (World.block_lt_of_cell? w _ Q2.out)).trans Q2.out
         have HS4 := Lib.hid AB4.out.size
         have hK8 : W4.drew.cell? (ad.add (kk * 3)) = some (.string x.f0) ∧ W4.drew.cell? ⟨(ad.add (kk * 3)).block, (ad.add (kk * 3)).off + 1, none⟩ = some (.int .i64 x.f1) ∧ W4.drew.cell? ⟨(ad.add (kk * 3)).block, (ad.add (kk * 3)).off + 2, none⟩ = some (.string x.f2) ∧ Below W4.heap.size W4 W4.drew := ⟨x0, x1, x2, below_drew1 (Below.refl _ _)⟩
         go_wp2
         have hX0 := Lib.hid x0
         have hX1 := Lib.hid x1
         have hX2 := Lib.hid x2
         go_region_held3 (fun w' => w'.cell? (ad.add (kk * 3)) = some (.string x.f0) ∧ w'.cell? ⟨(ad.add (kk * 3)).block, (ad.add (kk * 3)).off + 1, none⟩ = some (.int .i64 x.f1) ∧ w'.cell? ⟨(ad.add (kk * 3)).block, (ad.add (kk * 3)).off + 2, none⟩ = some (.string x.f2) ∧ Below W4.heap.size W4 w') ((first | assumption | exact keepF hX0.out hX1.out hX2.out zq8))
          (first
            | (refine Kd.R_append_rows_step k75 (w0 := W4) W4.heap.size zq28 (.tmp 33) (.tmp 36) 24 75 (.agg #[.string ⟨#[]⟩, .int .i64 0, .string ⟨#[]⟩]) 40 zq28 Tryz.underlying24 info75 rfl zq13 zq13 _ ([] : List FileT) (out.take n) _ n c3 (fun _ => True) (fun _ => False) zq28 zq28 ?aO ?aR (fun _ _ h => h) (fun _ h => h.elim) (fun _ _ => trivial) ?aB ?aS ?aL ?_
               (case aO => exact R_emptyF (by first | exact Nat.le_refl _ | exact Nat.le_succ _) (by (with_reducible repeat (first | exact blk_new _ _ | exact blk_new1 _ _ _ | refine blk_drew ?_ | refine blk_alloc ?_ _))))
               (case aR => exact C_takeF (Kd.C_below HCO.out zq8) hnn)
               (case aB => exact zq8)
               (case aS => exact below_size zq8)
               (case aL => simp only [List.length_nil]; have := HL.out; omega)
               intro v1 w1 ho1 hb1 hg1 hat1
               clear hat1)
            | (refine Kd.R_append_rows_step k75 (w0 := W4) W4.heap.size zq28 (.tmp 37) (.tmp 42) 24 75 (.agg #[.string ⟨#[]⟩, .int .i64 0, .string ⟨#[]⟩]) 40 zq28 Tryz.underlying24 info75 rfl zq13 zq13 v1 ([] ++ out.take n) [x] _ 1 1 (fun _ => True) (fun _ => False) zq28 zq28 ?aO ?aR (fun _ _ h => h) (fun _ h => h.elim) (fun _ _ => trivial) ?aB ?aS ?aL ?_
               (case aO => exact (by with_reducible repeat (first | exact ho1 | apply Kd.R_alloc | apply Kd.R_drewN | apply Kd.R_drew)))
               (case aR => refine C_oneF ?_; first | ((with_reducible repeat (first | exact blk_new _ _ | exact blk_new1 _ _ _ | refine blk_drew ?_ | refine blk_alloc ?_ _)); done) | (refine (grown_at hg1 _ rfl _ (by rw [size_two]; omega) (by first | exact Nat.ne_of_gt (Nat.lt_succ_self _) | exact Nat.ne_of_lt (Nat.lt_succ_self _))).trans ?_; (with_reducible repeat (first | exact blk_new _ _ | exact blk_new1 _ _ _ | refine blk_drew ?_ | refine blk_alloc ?_ _)); done))
               (case aB => exact zq8)
               (case aS => exact below_size zq8)
               (case aL => rw [List.nil_append, List.length_take]; have := HL.out; omega)
               clear ho1 hg1
               intro v2 w2 ho2 hb2 hg2 hat2
               clear hg2 hat2)
            | (refine Kd.R_append_rows_step k75 (w0 := W4) W4.heap.size zq28 (.tmp 43) (.tmp 46) 24 75 (.agg #[.string ⟨#[]⟩, .int .i64 0, .string ⟨#[]⟩]) 40 zq28 Tryz.underlying24 info75 rfl zq13 zq13 v2 ([] ++ out.take n ++ [x]) (out.drop n) _ (out.length - n) (c3 - n) (fun _ => True) (fun _ => False) zq28 zq28 ?aO ?aR (fun _ _ h => h) (fun _ h => h.elim) (fun _ _ => trivial) ?aB ?aS ?aL ?_
               (case aO => exact (by with_reducible repeat (first | exact ho2 | apply Kd.R_alloc | apply Kd.R_drewN | apply Kd.R_drew)))
               (case aR => first | exact C_dropF (Kd.C_below HCO.out zq8) hnn HC3' | exact Kd.C_below HCO.out zq8)
               (case aB => exact zq8)
               (case aS => exact below_size zq8)
               (case aL => rw [List.nil_append, List.length_append, List.length_take, List.length_singleton]; have := HL.out; omega)
               clear ho2
               intro v3 w3 ho3 hb3 hg3 hat3
               clear hg3 hat3))
         all_goals go_wp2
         all_goals (
          have hins : insF out x = (out.take n ++ [x]) ++ out.drop n := by
           unfold insF
           rw [HPL.out]
          rw [List.nil_append, ← hins, ← HT.out] at ho3
          have HO3 := Lib.hid (Kd.R_lower ho3 HS4.out)
          have HB3 := Lib.hid (AB4.out.trans (hb3.mono AB4.out.size))
          clear ho3 hb3 hins x0 x1 x2
          go_roundg (l0.length - (kk + 1))
          case measure => omega
          case rel => exact ⟨kk + 1, by omega, Nat.le_refl _, by go_num, HO3.out, HB3.out⟩)
     · have hn0 : n = 0 := by omega
       subst hn0
       go_wp2
       go_quiet (fail)
       have OR4 := Lib.hid (Kd.R_below AO3.out (pw_below_drewN (Below.refl wr.heap.size wr) nq))
       have AB4 := Lib.hid (show Below w.heap.size w (wr.drewN nq) from pw_below_drewN AB3.out nq)
       have hpl : placeF out x.f0 out.length = 0 := AP.out
       generalize wr.drewN nq = W4 at OR4 AB4 ⊢
       clear q0 q1 q2 hr3
       have HPL := Lib.hid hpl
       have HCO := Lib.hid (Kd.R_reads' OR4.out).2.2
       have HC3' := HC3.out
       clear hpl
       have hnc : (0 : Int) ≤ (c3 : Int) := by omega
       have hnl : (0 : Int) ≤ (out.length : Int) := by omega
       have hnn : 0 ≤ out.length := by omega
       have x0 := (AB4.out.cell (World.block_lt_of_cell? w _ Q0.out)).trans Q0.out
       have x1 := (AB4.out.cell (World.block_lt_of_cell? w _ Q1.out)).trans Q1.out
       have x2 := (AB4.out.cell (World.block_lt_of_cell? w _ Q2.out)).trans Q2.out
       have HS4 := Lib.hid AB4.out.size
       have hK8 : W4.drew.cell? (ad.add (kk * 3)) = some (.string x.f0) ∧ W4.drew.cell? ⟨(ad.add (kk * 3)).block, (ad.add (kk * 3)).off + 1, none⟩ = some (.int .i64 x.f1) ∧ W4.drew.cell? ⟨(ad.add (kk * 3)).block, (ad.add (kk * 3)).off + 2, none⟩ = some (.string x.f2) ∧ Below W4.heap.size W4 W4.drew := ⟨x0, x1, x2, below_drew1 (Below.refl _ _)⟩
       go_wp2
       have hX0 := Lib.hid x0
       have hX1 := Lib.hid x1
       have hX2 := Lib.hid x2
       go_region_held3 (fun w' => w'.cell? (ad.add (kk * 3)) = some (.string x.f0) ∧ w'.cell? ⟨(ad.add (kk * 3)).block, (ad.add (kk * 3)).off + 1, none⟩ = some (.int .i64 x.f1) ∧ w'.cell? ⟨(ad.add (kk * 3)).block, (ad.add (kk * 3)).off + 2, none⟩ = some (.string x.f2) ∧ Below W4.heap.size W4 w') ((first | assumption | exact keepF hX0.out hX1.out hX2.out zq8))
        (first
          | (refine Kd.R_append_rows_step k75 (w0 := W4) W4.heap.size zq28 (.tmp 33) (.tmp 36) 24 75 (.agg #[.string ⟨#[]⟩, .int .i64 0, .string ⟨#[]⟩]) 40 zq28 Tryz.underlying24 info75 rfl zq13 zq13 _ ([] : List FileT) (out.take 0) _ 0 c3 (fun _ => True) (fun _ => False) zq28 zq28 ?aO ?aR (fun _ _ h => h) (fun _ h => h.elim) (fun _ _ => trivial) ?aB ?aS ?aL ?_
             (case aO => exact R_emptyF (by first | exact Nat.le_refl _ | exact Nat.le_succ _) (by (with_reducible repeat (first | exact blk_new _ _ | exact blk_new1 _ _ _ | refine blk_drew ?_ | refine blk_alloc ?_ _))))
             (case aR => exact C_takeF (Kd.C_below HCO.out zq8) hnn)
             (case aB => exact zq8)
             (case aS => exact below_size zq8)
             (case aL => simp only [List.length_nil]; have := HL.out; omega)
             intro v1 w1 ho1 hb1 hg1 hat1
             clear hat1)
          | (refine Kd.R_append_rows_step k75 (w0 := W4) W4.heap.size zq28 (.tmp 37) (.tmp 42) 24 75 (.agg #[.string ⟨#[]⟩, .int .i64 0, .string ⟨#[]⟩]) 40 zq28 Tryz.underlying24 info75 rfl zq13 zq13 v1 ([] ++ out.take 0) [x] _ 1 1 (fun _ => True) (fun _ => False) zq28 zq28 ?aO ?aR (fun _ _ h => h) (fun _ h => h.elim) (fun _ _ => trivial) ?aB ?aS ?aL ?_
             (case aO => exact (by with_reducible repeat (first | exact ho1 | apply Kd.R_alloc | apply Kd.R_drewN | apply Kd.R_drew)))
             (case aR => refine C_oneF ?_; first | ((with_reducible repeat (first | exact blk_new _ _ | exact blk_new1 _ _ _ | refine blk_drew ?_ | refine blk_alloc ?_ _)); done) | (refine (grown_at hg1 _ rfl _ (by rw [size_two]; omega) (by first | exact Nat.ne_of_gt (Nat.lt_succ_self _) | exact Nat.ne_of_lt (Nat.lt_succ_self _))).trans ?_; (with_reducible repeat (first | exact blk_new _ _ | exact blk_new1 _ _ _ | refine blk_drew ?_ | refine blk_alloc ?_ _)); done))
             (case aB => exact zq8)
             (case aS => exact below_size zq8)
             (case aL => rw [List.nil_append, List.length_take]; have := HL.out; omega)
             clear ho1 hg1
             intro v2 w2 ho2 hb2 hg2 hat2
             clear hg2 hat2)
          | (refine Kd.R_append_rows_step k75 (w0 := W4) W4.heap.size zq28 (.tmp 43) (.tmp 46) 24 75 (.agg #[.string ⟨#[]⟩, .int .i64 0, .string ⟨#[]⟩]) 40 zq28 Tryz.underlying24 info75 rfl zq13 zq13 v2 ([] ++ out.take 0 ++ [x]) (out.drop 0) _ (out.length - 0) (c3 - 0) (fun _ => True) (fun _ => False) zq28 zq28 ?aO ?aR (fun _ _ h => h) (fun _ h => h.elim) (fun _ _ => trivial) ?aB ?aS ?aL ?_
             (case aO => exact (by with_reducible repeat (first | exact ho2 | apply Kd.R_alloc | apply Kd.R_drewN | apply Kd.R_drew)))
             (case aR => first | exact C_dropF (Kd.C_below HCO.out zq8) hnn HC3' | exact Kd.C_below HCO.out zq8)
             (case aB => exact zq8)
             (case aS => exact below_size zq8)
             (case aL => rw [List.nil_append, List.length_append, List.length_take, List.length_singleton]; have := HL.out; omega)
             clear ho2
             intro v3 w3 ho3 hb3 hg3 hat3
             clear hg3 hat3))
       all_goals go_wp2
       all_goals (
        have hins : insF out x = (out.take 0 ++ [x]) ++ out.drop 0 := by
         unfold insF
         rw [HPL.out]
        rw [List.nil_append, ← hins, ← HT.out] at ho3
        have HO3 := Lib.hid (Kd.R_lower ho3 HS4.out)
        have HB3 := Lib.hid (AB4.out.trans (hb3.mono AB4.out.size))
        clear ho3 hb3 hins x0 x1 x2
        go_roundg (l0.length - (kk + 1))
        case measure => omega
        case rel => exact ⟨kk + 1, by omega, Nat.le_refl _, by go_num, HO3.out, HB3.out⟩)
  · have hke : kk = l0.length := by omega
    have hltz : ¬ (kk : Int) < (l0.length : Int) := by omega
    have AO2 := AO.out
    rw [hke, List.take_length] at AO2
    have HO2 := Lib.hid AO2
    clear AO2 AO hke
    go_wp2
    go_ret
    exact ⟨_, rfl, HO2.out, AB.out⟩
end Go.Proofs.YtkjgnnhpjcofiaaGreatDoor.PX.X

namespace Go.Proofs.YtkjgnnhpjcofiaaGreatDoor.PX.X
open Go Go.RowKit Go.Lib Go.Proofs.YtkjgnnhpjcofiaaGreatDoorW.PrintWords Go.Proofs.YtkjgnnhpjcofiaaGreatDoor.PX
set_option linter.unusedVariables false
set_option linter.unusedSimpArgs false
set_option maxHeartbeats 4000000 in
set_option maxRecDepth 100000 in
theorem filesS_calls (K : Nat) (A0 : Option Addr) (c0 : Nat) (l0 : List S65) (gt : ByteArray → ByteArray × Bool) (de : ByteArray → List EntT × Bool) (w : World) (hr0 : Kd.C k65 w A0 l0.length l0) (hc0 : l0.length ≤ c0) (hgt : ∀ x, spec_l5Get.f K l0 2 x = some (gt x)) (hde : ∀ x, (gt x).2 = true → spec_l6Untree.f K (gt x).1 = some (de (gt x).1)) (G : GoodN (ndG gt de))
 (t : ByteArray) (kq : Nat) (c n' : Int) (out : List FileT) (hV : walkV (ndG gt de) kq 0 t (⟨#[]⟩ : ByteArray) 0 = some (c, n', out)) :
 Calls Tryz.prog 41 #[.slice A0 l0.length c0, .string t] w fun e w' => ∃ v, e = .returned (.tuple #[v, .int .i64 (endV (c, n', out)).1]) ∧ Kd.R k75 75 w' w.heap.size (fun _ => True) v (endV (c, n', out)).2 ∧ Below w.heap.size w w' := by
 have HRD := Lib.hid (fun (W : World) (b : Nat) => readS_calls K A0 c0 l0 gt de w hr0 hc0 hgt hde G kq 0 t (⟨#[]⟩ : ByteArray) 0 c n' out W b)
 have HV := Lib.hid hV
 have hlen : c = 0 → out.length ≤ 20000 := fun hc => by
  have h1 := walkV_len G kq 0 t (⟨#[]⟩ : ByteArray) 0 n' out zq7 (by subst hc; exact hV)
  omega
 have HLEN := Lib.hid hlen
 clear hr0 hc0 hgt hde G hV hlen
 by_cases hc : c = 0
 · subst hc
   have hln := HLEN.out rfl
   clear HLEN
   by_cases h60 : out.length > 60
   · have hev : endV (0, n', out) = (2, []) := by unfold endV; rw [if_pos rfl, if_pos h60]
     rw [hev]
     have h61 : (out.length : Int) > 60 := by omega
     have h62 : (60 : Int) < (out.length : Int) := by omega
     clear hev
     go_enter Tryz.func41, Tryz.ntmps41
     go_wp2_with (first | ((with_reducible refine gate_dst (N := 6) rfl ?_); refine box_event ?hg (N := 6) ?hd (cs := #[.int .i64 0]) (t := 2) ?hr ?_; (case hd => rfl); (case hg => rfl); (case hr => first | (go_simp; done) | (go_simp; rfl)); intro gc hgc w1 hbox hb1; have HCB := Lib.hid hbox; have HB1 := Lib.hid hb1; have HGC := Lib.hid hgc; have y0 : w1.cell? ⟨gc, 0, none⟩ = some (.int .i64 0) := (blk_cell hbox 0).trans rfl; have f0 := blk_frozen hbox 0; clear hbox hb1 hgc) | (go_at_call 73; have hgc : w.heap.size ≤ gc := Nat.le_of_eq HGC.out.symm; (refine (HRD.out (w1.setCell ⟨gc, 0, none⟩ (.int .i64 0)) gc (below_set HB1.out hgc) hgc (blk_put (cs := #[.int .i64 0]) HCB.out 0 (.int .i64 0) rfl) zq7 zq7 zq7 zq7 zq13 HV.out).mono ?_); rintro e w3 ⟨v3, rfl, ho3, hg3, hc3⟩; have BW3 := Lib.hid ((below_set (j := 0) (v := .int .i64 0) HB1.out hgc).grown hg3 (below_set (j := 0) (v := .int .i64 0) HB1.out hgc).size (fun k hk => by obtain rfl := Option.some.inj hk; exact hgc)); have hs3 := (below_set (j := 0) (v := .int .i64 0) HB1.out hgc).size; rw [if_pos rfl] at ho3; obtain ⟨A3, c3, rfl⟩ := Kd.R_slice ho3; have R3 := Lib.hid (Kd.R_lower ho3 hs3); clear ho3 hg3 hc3 hs3 hgc))
     go_ret2
     exact ⟨_, rfl, Kd.R_nil _ _ _ _ _, BW3.out⟩
   · have hev : endV (0, n', out) = (0, sortF out) := by unfold endV; rw [if_pos rfl, if_neg h60]
     rw [hev]
     have h61 : ¬ (out.length : Int) > 60 := by omega
     have h62 : ¬ (60 : Int) < (out.length : Int) := by omega
     clear hev
     go_enter Tryz.func41, Tryz.ntmps41
     go_wp2_with (first | ((with_reducible refine gate_dst (N := 6) rfl ?_); refine box_event ?hg (N := 6) ?hd (cs := #[.int .i64 0]) (t := 2) ?hr ?_; (case hd => rfl); (case hg => rfl); (case hr => first | (go_simp; done) | (go_simp; rfl)); intro gc hgc w1 hbox hb1; have HCB := Lib.hid hbox; have HB1 := Lib.hid hb1; have HGC := Lib.hid hgc; have y0 : w1.cell? ⟨gc, 0, none⟩ = some (.int .i64 0) := (blk_cell hbox 0).trans rfl; have f0 := blk_frozen hbox 0; clear hbox hb1 hgc) | (go_at_call 73; have hgc : w.heap.size ≤ gc := Nat.le_of_eq HGC.out.symm; (refine (HRD.out (w1.setCell ⟨gc, 0, none⟩ (.int .i64 0)) gc (below_set HB1.out hgc) hgc (blk_put (cs := #[.int .i64 0]) HCB.out 0 (.int .i64 0) rfl) zq7 zq7 zq7 zq7 zq13 HV.out).mono ?_); rintro e w3 ⟨v3, rfl, ho3, hg3, hc3⟩; have BW3 := Lib.hid ((below_set (j := 0) (v := .int .i64 0) HB1.out hgc).grown hg3 (below_set (j := 0) (v := .int .i64 0) HB1.out hgc).size (fun k hk => by obtain rfl := Option.some.inj hk; exact hgc)); have hs3 := (below_set (j := 0) (v := .int .i64 0) HB1.out hgc).size; rw [if_pos rfl] at ho3; obtain ⟨A3, c3, rfl⟩ := Kd.R_slice ho3; have R3 := Lib.hid (Kd.R_lower ho3 hs3); clear ho3 hg3 hc3 hs3 hgc) | (go_at_call 74; (refine (sortF_calls A3 c3 out w3 (Kd.R_reads' R3.out).2.2 zq7).mono ?_); rintro e w4 ⟨v4, rfl, ho4, hb4⟩; have R4 := Lib.hid (Kd.R_lower ho4 BW3.out.size); have BW4 := Lib.hid (BW3.out.trans (hb4.mono BW3.out.size)); clear ho4 hb4))
     go_ret2
     exact ⟨_, rfl, R4.out, BW4.out⟩
 · have hev : endV (c, n', out) = (c, []) := by unfold endV; rw [if_neg hc]
   rw [hev]
   clear hev HLEN
   go_enter Tryz.func41, Tryz.ntmps41
   go_wp2_with (first | ((with_reducible refine gate_dst (N := 6) rfl ?_); refine box_event ?hg (N := 6) ?hd (cs := #[.int .i64 0]) (t := 2) ?hr ?_; (case hd => rfl); (case hg => rfl); (case hr => first | (go_simp; done) | (go_simp; rfl)); intro gc hgc w1 hbox hb1; have HCB := Lib.hid hbox; have HB1 := Lib.hid hb1; have HGC := Lib.hid hgc; have y0 : w1.cell? ⟨gc, 0, none⟩ = some (.int .i64 0) := (blk_cell hbox 0).trans rfl; have f0 := blk_frozen hbox 0; clear hbox hb1 hgc) | (go_at_call 73; have hgc : w.heap.size ≤ gc := Nat.le_of_eq HGC.out.symm; (refine (HRD.out (w1.setCell ⟨gc, 0, none⟩ (.int .i64 0)) gc (below_set HB1.out hgc) hgc (blk_put (cs := #[.int .i64 0]) HCB.out 0 (.int .i64 0) rfl) zq7 zq7 zq7 zq7 zq13 HV.out).mono ?_); rintro e w3 ⟨v3, rfl, ho3, hg3, hc3⟩; have BW3 := Lib.hid ((below_set (j := 0) (v := .int .i64 0) HB1.out hgc).grown hg3 (below_set (j := 0) (v := .int .i64 0) HB1.out hgc).size (fun k hk => by obtain rfl := Option.some.inj hk; exact hgc)); have hs3 := (below_set (j := 0) (v := .int .i64 0) HB1.out hgc).size; obtain ⟨A3, c3, rfl⟩ := Kd.R_slice ho3; clear ho3 hg3 hc3 hs3 hgc))
   go_ret2
   exact ⟨_, rfl, Kd.R_nil _ _ _ _ _, BW3.out⟩
end Go.Proofs.YtkjgnnhpjcofiaaGreatDoor.PX.X
