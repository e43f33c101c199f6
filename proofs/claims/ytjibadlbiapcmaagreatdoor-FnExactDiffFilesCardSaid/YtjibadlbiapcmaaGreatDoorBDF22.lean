/- Texts of this claim set one behind another by wip/bundle.py: XSortF, PXf82, PXf46, PXf10. -/
import Derived.Test.YtjibadlbiapcmaaGreatDoorBDF15
import Derived.Test.YtjibadlbiapcmaaGreatDoorBDF20
import Derived.Test.YtjibadlbiapcmaaGreatDoorBDF3
import Derived.IntWalk
import Derived.Deep.RegionHeld3
import Derived.Test.YtjibadlbiapcmaaGreatDoorBDF11
import Derived.Test.YtjibadlbiapcmaaGreatDoorBDF13
namespace Go.Proofs.YtjibadlbiapcmaaGreatDoor.PX.X
open Go Go.RowKit Go.Lib Go.Proofs.YtjibadlbiapcmaaGreatDoorW.PrintWords Go.Proofs.YtjibadlbiapcmaaGreatDoor.PX
set_option linter.unusedVariables false
set_option linter.unusedSimpArgs false
/-- Where a file goes: behind all that are not behind it, looked for from the end. -/
def placeF (l : List FileT) (s : ByteArray) : Nat → Nat
  | 0 => 0
  | n + 1 => if lessB s (l.getD n z74).f0 = true then placeF l s n else n + 1
def insF (l : List FileT) (x : FileT) : List FileT := (l.take (placeF l x.f0 l.length) ++ [x]) ++ l.drop (placeF l x.f0 l.length)
def sortF (l : List FileT) : List FileT := l.foldl insF []
theorem insF_len (l : List FileT) (x : FileT) : (insF l x).length = l.length + 1 := by
  unfold insF
  rw [List.length_append, List.length_append, List.length_take, List.length_drop, List.length_singleton]
  omega
theorem sortF_len (l : List FileT) : ∀ acc : List FileT, (l.foldl insF acc).length = acc.length + l.length := by
  induction l with
  | nil => intro acc; rfl
  | cons x l ih =>
    intro acc
    rw [List.foldl_cons, ih, insF_len, List.length_cons]
    omega
theorem sortF_snoc (l : List FileT) (x : FileT) : sortF (l ++ [x]) = insF (sortF l) x := by
  unfold sortF
  rw [List.foldl_append]
  rfl
theorem C_oneF {W : World} {m : Nat} {x : FileT} (h : W.heap[m]? = some (.cells #[.string x.f0, .int .i64 x.f1, .string x.f2] 74 (0, 0))) : Kd.C k74 W (some ⟨m, 0, none⟩) 1 [x] := by
  refine ⟨rfl, by decide, fun _ => ⟨_, rfl, fun j p hj => ?_⟩⟩
  match j, hj with
  | 0, hj =>
    have e : x = p := Option.some.inj hj
    subst e
    refine ⟨[.string x.f0, .int .i64 x.f1, .string x.f2], rfl, ⟨_, _, rfl, rfl, ⟨_, _, rfl, rfl, rfl⟩⟩, fun i u hu => ?_⟩
    match i, hu with
    | 0, hu => rw [← Option.some.inj hu]; exact (blk_cell h 0).trans rfl
    | 1, hu => rw [← Option.some.inj hu]; exact (blk_cell h 1).trans rfl
    | 2, hu => rw [← Option.some.inj hu]; exact (blk_cell h 2).trans rfl
    | i + 3, hu => simp at hu
  | j + 1, hj => simp at hj
theorem R_emptyF {W : World} {n B : Nat} (hn : B ≤ n) (h : W.heap[n]? = some (.cells #[] 74 (0, 0))) : Kd.R k74 74 W B (fun _ => True) (.slice (some ⟨n, 0, none⟩) 0 0) [] := by
  refine ⟨fun _ _ => trivial, [], ⟨rfl, .inr ⟨n, 0, #[], rfl, hn, h, Nat.le_refl _, by decide, rfl, rfl⟩⟩, Reps.none _ _⟩
theorem C_takeF {w : World} {A : Option Addr} {l : List FileT} {m : Nat} (h : Kd.C k74 w A l.length l) (hm : m ≤ l.length) : Kd.C k74 w A m (l.take m) := by
  have h2 := Kd.C_take h hm
  rw [List.length_take, Nat.min_eq_left hm] at h2
  exact h2
theorem C_dropF {w : World} {A : Option Addr} {l : List FileT} {m c : Nat} (h : Kd.C k74 w A l.length l) (hm : m ≤ l.length) (hc : l.length ≤ c) : Kd.C k74 w (if c = m then A else A.map (·.add (m * 3))) (l.length - m) (l.drop m) := by
  have h2 := Kd.C_drop h hm hc
  rw [List.length_drop, show (k74 : Kd FileT).sz = 3 from rfl] at h2
  exact h2
theorem keepF {a b c : Addr} {va vb vc : Value} {W w' : World} (h0 : W.cell? a = some va) (h1 : W.cell? b = some vb) (h2 : W.cell? c = some vc) (hb : Below W.heap.size W w') : w'.cell? a = some va ∧ w'.cell? b = some vb ∧ w'.cell? c = some vc ∧ Below W.heap.size W w' :=
  ⟨(hb.cell (World.block_lt_of_cell? W _ h0)).trans h0, (hb.cell (World.block_lt_of_cell? W _ h1)).trans h1, (hb.cell (World.block_lt_of_cell? W _ h2)).trans h2, hb⟩
set_option maxHeartbeats 1000000 in
set_option maxRecDepth 8000 in
theorem sortF_calls (A0 : Option Addr) (c0 : Nat) (l0 : List FileT) (w : World) (hr0 : Kd.C k74 w A0 l0.length l0) (hbig : l0.length ≤ 1048576) :
    Calls Tryz.prog 82 #[.slice A0 l0.length c0] w fun e w' => ∃ v, e = .returned v ∧ Kd.R k74 74 w' w.heap.size (fun _ => True) v (sortF l0) ∧ Below w.heap.size w w' := by
  have HR := Lib.hid hr0
  clear hr0
  go_enter Tryz.func82, Tryz.ntmps82
  go_wp2_with (first | ((with_reducible refine gate_dst (N := 6) rfl ?_); refine Kd.R_lit k74 _ 74 ?hg (N := 6) ?hd (xs := ([] : List FileT)) (inner := []) (ok := fun _ => True) (okp := fun _ => True) ?hr ?hp (fun _ hk => hk) trivial (Below.refl _ _) (Nat.le_refl _) (by simp) ?_; (case hd => rfl); (case hg => rfl); (case hr => first | (go_simp; done) | (go_simp; rfl)); (case hp => exact (Reps.none _ _)); intro v3 w2 ho3 hb2 hg_ hnew_; clear hg_ hnew_; have HO := Lib.hid ho3; have HB2 := Lib.hid hb2; clear ho3 hb2))
  go_loopg [3, 4] l0.length (fun gg s3 s4 wr => ∃ kk : Nat, kk ≤ l0.length ∧ l0.length - kk ≤ gg ∧ s4 = .int .i64 kk ∧ Aside (Kd.R k74 74 wr w.heap.size (fun _ => True) s3 (sortF (l0.take kk))) ∧ Aside (Below w.heap.size w wr))
  case atStart => exact ⟨0, Nat.zero_le _, by omega, rfl, HO.out, HB2.out⟩
  case round =>
    obtain ⟨kk, hkk, hg, rfl, AO, AB⟩ := hrel
    clear HO HB2
    have hkz : (0 : Int) ≤ (kk : Int) := by omega
    by_cases hlt : kk < l0.length
    · have hltz : (kk : Int) < (l0.length : Int) := by omega
      obtain ⟨ad, rfl, q0, q1, q2⟩ := at_T74 HR.out (kk : Int) hkz hltz
      rw [Int.toNat_natCast] at q0 q1 q2
      have hx : rd_T74 l0 (kk : Int) = l0[kk] := by
        show l0.getD ((kk : Int)).toNat _ = _
        rw [Int.toNat_natCast, List.getD_eq_getElem?_getD, List.getElem?_eq_getElem hlt, Option.getD_some]
      have htake : sortF (l0.take (kk + 1)) = insF (sortF (l0.take kk)) l0[kk] := by
        rw [List.take_succ_eq_append_getElem hlt, sortF_snoc]
      have hlen : (sortF (l0.take kk)).length = kk := by
        have := sortF_len (l0.take kk) []
        rw [List.length_take] at this
        unfold sortF
        rw [this, List.length_nil]
        omega
      rw [hx] at q0 q1 q2
      clear hx
      generalize l0[kk] = x at q0 q1 q2 htake
      generalize sortF (l0.take kk) = out at AO htake hlen
      obtain ⟨A3, c3, hv3, hc3, hC3⟩ := Kd.R_reads AO.out
      subst hv3
      have HT := Lib.hid htake
      have HL := Lib.hid hlen
      have HC3 := Lib.hid hc3
      have hcz3 : (out.length : Int) ≤ (c3 : Int) := by omega
      clear htake hlen hc3 hC3
      have Q0 := Lib.hid q0
      have Q1 := Lib.hid q1
      have Q2 := Lib.hid q2
      clear q0 q1 q2
      go_wp2
      go_loopg [5] (out.length + 1) (fun gg s5 w3 => ∃ n : Nat, n ≤ out.length ∧ n ≤ gg ∧ s5 = .int .i64 n ∧ Aside (placeF out x.f0 out.length = placeF out x.f0 n) ∧ Aside (Kd.R k74 74 w3 w.heap.size (fun _ => True) (.slice A3 out.length c3) out) ∧ Aside (Below w.heap.size w w3))
      case atStart => exact ⟨out.length, Nat.le_refl _, by omega, rfl, rfl, AO.out, AB.out⟩
      case round =>
        obtain ⟨n, hn, hg2, rfl, AP, AO3, AB3⟩ := hrel
        clear AO AB
        have q0 := (AB3.out.cell (World.block_lt_of_cell? w _ Q0.out)).trans Q0.out
        have q1 := (AB3.out.cell (World.block_lt_of_cell? w _ Q1.out)).trans Q1.out
        have q2 := (AB3.out.cell (World.block_lt_of_cell? w _ Q2.out)).trans Q2.out
        have hr3 := (Kd.R_reads' AO3.out).2.2
        by_cases hpos : 0 < n
        · obtain ⟨m, hm⟩ : ∃ m, n = m + 1 := ⟨n - 1, by omega⟩
          have hmz : (0 : Int) ≤ (m : Int) := by omega
          have hml : (m : Int) < (out.length : Int) := by omega
          have hgt : (n : Int) > 0 := by omega
          have hws : IntKind.i64.wrap ((n : Int) - 1) = (m : Int) := (IntWalk.i64_in _ (by have h1 := HL.out; omega)).trans (by omega)
          obtain ⟨a3, rfl, r0, r1, r2⟩ := at_T74 hr3 (m : Int) hmz hml
          have hy : rd_T74 out (m : Int) = out.getD m z74 := by
            show out.getD ((m : Int)).toNat _ = _
            rw [Int.toNat_natCast]
          have hp : placeF out x.f0 n = if lessB x.f0 (out.getD m z74).f0 = true then placeF out x.f0 m else n := by rw [hm]; rfl
          rw [hy] at r0
          rw [Int.toNat_natCast] at r0
          clear r1 r2 hy hr3
          generalize out.getD m z74 = y at r0 hp
          have HP := Lib.hid hp
          have HM := Lib.hid hm
          clear hp hm
          have hK0 : wr.drew.cell? (a3.add (m * 3)) = some (.string y.f0) ∧ wr.drew.cell? (ad.add (kk * 3)) = some (.string x.f0) ∧ Below wr.heap.size wr wr.drew := ⟨r0, q0, below_drew1 (Below.refl _ _)⟩
          clear q1 q2
          by_cases hless : lessB x.f0 y.f0 = true
          · have hb : Op.bytesLess x.f0.toList y.f0.toList = true := by rw [toList_data, toList_data]; exact hless
            go_wp2
            go_region_held3 (fun w' => w'.cell? (a3.add (m * 3)) = some (.string y.f0) ∧ w'.cell? (ad.add (kk * 3)) = some (.string x.f0) ∧ Below wr.heap.size wr w') (with_reducible first | assumption) ((fail))
            have OR4 := Lib.hid (Kd.R_below AO3.out (below_drew1 (Below.refl wr.heap.size wr)))
            have AB4 := Lib.hid (show Below w.heap.size w wr.drew from AB3.out.drew)
            generalize wr.drew = W4 at OR4 AB4 ⊢
            clear hK0 r0 q0
            go_wp2
            go_roundg m
            case measure => have := HM.out; omega
            case rel => exact ⟨m, by have := HM.out; omega, Nat.le_refl _, by go_num, AP.out.trans (HP.out.trans (if_pos hless)), OR4.out, AB4.out⟩
          · have hb : Op.bytesLess x.f0.toList y.f0.toList = false := by rw [toList_data, toList_data]; exact Bool.eq_false_iff.mpr hless
            go_wp2
            go_region_held3 (fun w' => w'.cell? (a3.add (m * 3)) = some (.string y.f0) ∧ w'.cell? (ad.add (kk * 3)) = some (.string x.f0) ∧ Below wr.heap.size wr w') (with_reducible first | assumption) ((fail))
            have OR4 := Lib.hid (Kd.R_below AO3.out (below_drew1 (Below.refl wr.heap.size wr)))
            have AB4 := Lib.hid (show Below w.heap.size w wr.drew from AB3.out.drew)
            have hpl : placeF out x.f0 out.length = n := AP.out.trans (HP.out.trans (if_neg hless))
            rename_i hHeldZ
            clear hHeldZ
            generalize wr.drew = W4 at OR4 AB4 ⊢
            clear hK0 r0 q0
            have HPL := Lib.hid hpl
            have HCO := Lib.hid (Kd.R_reads' OR4.out).2.2
            have HC3' := HC3.out
            clear hpl
            have hnc : (n : Int) ≤ (c3 : Int) := by omega
            have hnl : (n : Int) ≤ (out.length : Int) := by omega
            have hnn : n ≤ out.length := by omega
            have x0 := (AB4.out.cell (World.block_lt_of_cell? w _ Q0.out)).trans Q0.out
            have x1 := (AB4.out.cell (World.block_lt_of_cell? w _ Q1.out)).trans Q1.out
            have x2 := (AB4.out.cell (World.block_lt_of_cell? w _ Q2.out)).trans Q2.out
            have HS4 := Lib.hid AB4.out.size
            have hK8 : W4.drew.cell? (ad.add (kk * 3)) = some (.string x.f0) ∧ W4.drew.cell? ⟨(ad.add (kk * 3)).block, (ad.add (kk * 3)).off + 1, none⟩ = some (.int .i64 x.f1) ∧ W4.drew.cell? ⟨(ad.add (kk * 3)).block, (ad.add (kk * 3)).off + 2, none⟩ = some (.string x.f2) ∧ Below W4.heap.size W4 W4.drew := ⟨x0, x1, x2, below_drew1 (Below.refl _ _)⟩
            go_wp2
            have hX0 := Lib.hid x0
            have hX1 := Lib.hid x1
            have hX2 := Lib.hid x2
            go_region_held3 (fun w' => w'.cell? (ad.add (kk * 3)) = some (.string x.f0) ∧ w'.cell? ⟨(ad.add (kk * 3)).block, (ad.add (kk * 3)).off + 1, none⟩ = some (.int .i64 x.f1) ∧ w'.cell? ⟨(ad.add (kk * 3)).block, (ad.add (kk * 3)).off + 2, none⟩ = some (.string x.f2) ∧ Below W4.heap.size W4 w') ((first | assumption | exact keepF hX0.out hX1.out hX2.out (by with_reducible repeat (first | assumption | exact Below.refl _ _ | apply below_alloc | apply pw_below_drewN | apply below_drew1))))
              (first
                | (refine Kd.R_append_rows_step k74 (w0 := W4) W4.heap.size (by rfl) (.tmp 33) (.tmp 36) 28 74 (.agg #[.string ⟨#[]⟩, .int .i64 0, .string ⟨#[]⟩]) 40 (by rfl) Tryz.underlying28 info74 rfl (by decide) (by decide) _ ([] : List FileT) (out.take n) _ n c3 (fun _ => True) (fun _ => False) (by rfl) (by rfl) ?aO ?aR (fun _ _ h => h) (fun _ h => h.elim) (fun _ _ => trivial) ?aB ?aS ?aL ?_
                   (case aO => exact R_emptyF (by first | exact Nat.le_refl _ | exact Nat.le_succ _) (by (with_reducible repeat (first | exact blk_new _ _ | exact blk_new1 _ _ _ | refine blk_drew ?_ | refine blk_alloc ?_ _))))
                   (case aR => exact C_takeF (Kd.C_below HCO.out (by with_reducible repeat (first | assumption | exact Below.refl _ _ | apply below_alloc | apply pw_below_drewN | apply below_drew1))) hnn)
                   (case aB => exact (by with_reducible repeat (first | assumption | exact Below.refl _ _ | apply below_alloc | apply pw_below_drewN | apply below_drew1)))
                   (case aS => exact below_size (by with_reducible repeat (first | assumption | exact Below.refl _ _ | apply below_alloc | apply pw_below_drewN | apply below_drew1)))
                   (case aL => simp only [List.length_nil]; have := HL.out; omega)
                   intro v1 w1 ho1 hb1 hg1 hat1
                   clear hat1)
                | (refine Kd.R_append_rows_step k74 (w0 := W4) W4.heap.size (by rfl) (.tmp 37) (.tmp 42) 28 74 (.agg #[.string ⟨#[]⟩, .int .i64 0, .string ⟨#[]⟩]) 40 (by rfl) Tryz.underlying28 info74 rfl (by decide) (by decide) v1 ([] ++ out.take n) [x] _ 1 1 (fun _ => True) (fun _ => False) (by rfl) (by rfl) ?aO ?aR (fun _ _ h => h) (fun _ h => h.elim) (fun _ _ => trivial) ?aB ?aS ?aL ?_
                   (case aO => exact (by with_reducible repeat (first | exact ho1 | apply Kd.R_alloc | apply Kd.R_drewN | apply Kd.R_drew)))
                   (case aR => refine C_oneF ?_; first | ((with_reducible repeat (first | exact blk_new _ _ | exact blk_new1 _ _ _ | refine blk_drew ?_ | refine blk_alloc ?_ _)); done) | (refine (grown_at hg1 _ rfl _ (by rw [size_two]; omega) (by first | exact Nat.ne_of_gt (Nat.lt_succ_self _) | exact Nat.ne_of_lt (Nat.lt_succ_self _))).trans ?_; (with_reducible repeat (first | exact blk_new _ _ | exact blk_new1 _ _ _ | refine blk_drew ?_ | refine blk_alloc ?_ _)); done))
                   (case aB => exact (by with_reducible repeat (first | assumption | exact Below.refl _ _ | apply below_alloc | apply pw_below_drewN | apply below_drew1)))
                   (case aS => exact below_size (by with_reducible repeat (first | assumption | exact Below.refl _ _ | apply below_alloc | apply pw_below_drewN | apply below_drew1)))
                   (case aL => rw [List.nil_append, List.length_take]; have := HL.out; omega)
                   clear ho1 hg1
                   intro v2 w2 ho2 hb2 hg2 hat2
                   clear hg2 hat2)
                | (refine Kd.R_append_rows_step k74 (w0 := W4) W4.heap.size (by rfl) (.tmp 43) (.tmp 46) 28 74 (.agg #[.string ⟨#[]⟩, .int .i64 0, .string ⟨#[]⟩]) 40 (by rfl) Tryz.underlying28 info74 rfl (by decide) (by decide) v2 ([] ++ out.take n ++ [x]) (out.drop n) _ (out.length - n) (c3 - n) (fun _ => True) (fun _ => False) (by rfl) (by rfl) ?aO ?aR (fun _ _ h => h) (fun _ h => h.elim) (fun _ _ => trivial) ?aB ?aS ?aL ?_
                   (case aO => exact (by with_reducible repeat (first | exact ho2 | apply Kd.R_alloc | apply Kd.R_drewN | apply Kd.R_drew)))
                   (case aR => first | exact C_dropF (Kd.C_below HCO.out (by with_reducible repeat (first | assumption | exact Below.refl _ _ | apply below_alloc | apply pw_below_drewN | apply below_drew1))) hnn HC3' | exact Kd.C_below HCO.out (by with_reducible repeat (first | assumption | exact Below.refl _ _ | apply below_alloc | apply pw_below_drewN | apply below_drew1)))
                   (case aB => exact (by with_reducible repeat (first | assumption | exact Below.refl _ _ | apply below_alloc | apply pw_below_drewN | apply below_drew1)))
                   (case aS => exact below_size (by with_reducible repeat (first | assumption | exact Below.refl _ _ | apply below_alloc | apply pw_below_drewN | apply below_drew1)))
                   (case aL => rw [List.nil_append, List.length_append, List.length_take, List.length_singleton]; have := HL.out; omega)
                   clear ho2
                   intro v3 w3 ho3 hb3 hg3 hat3
                   clear hg3 hat3))
            all_goals go_wp2
            all_goals (
              have hins : insF out x = (out.take n ++ [x]) ++ out.drop n := by
                unfold insF
                rw [HPL.out]
              rw [List.nil_append, ← hins, ← HT.out] at ho3
              have HO3 := Lib.hid (Kd.R_lower ho3 HS4.out)
              have HB3 := Lib.hid (AB4.out.trans (hb3.mono AB4.out.size))
              clear ho3 hb3 hins x0 x1 x2
              go_roundg (l0.length - (kk + 1))
              case measure => omega
              case rel => exact ⟨kk + 1, by omega, Nat.le_refl _, by go_num, HO3.out, HB3.out⟩)
        · have hn0 : n = 0 := by omega
          subst hn0
          go_wp2
          go_quiet (fail)
          have OR4 := Lib.hid (Kd.R_below AO3.out (pw_below_drewN (Below.refl wr.heap.size wr) nq))
          have AB4 := Lib.hid (show Below w.heap.size w (wr.drewN nq) from pw_below_drewN AB3.out nq)
          have hpl : placeF out x.f0 out.length = 0 := AP.out
          generalize wr.drewN nq = W4 at OR4 AB4 ⊢
          clear q0 q1 q2 hr3
          have HPL := Lib.hid hpl
          have HCO := Lib.hid (Kd.R_reads' OR4.out).2.2
          have HC3' := HC3.out
          clear hpl
          have hnc : (0 : Int) ≤ (c3 : Int) := by omega
          have hnl : (0 : Int) ≤ (out.length : Int) := by omega
          have hnn : 0 ≤ out.length := by omega
          have x0 := (AB4.out.cell (World.block_lt_of_cell? w _ Q0.out)).trans Q0.out
          have x1 := (AB4.out.cell (World.block_lt_of_cell? w _ Q1.out)).trans Q1.out
          have x2 := (AB4.out.cell (World.block_lt_of_cell? w _ Q2.out)).trans Q2.out
          have HS4 := Lib.hid AB4.out.size
          have hK8 : W4.drew.cell? (ad.add (kk * 3)) = some (.string x.f0) ∧ W4.drew.cell? ⟨(ad.add (kk * 3)).block, (ad.add (kk * 3)).off + 1, none⟩ = some (.int .i64 x.f1) ∧ W4.drew.cell? ⟨(ad.add (kk * 3)).block, (ad.add (kk * 3)).off + 2, none⟩ = some (.string x.f2) ∧ Below W4.heap.size W4 W4.drew := ⟨x0, x1, x2, below_drew1 (Below.refl _ _)⟩
          go_wp2
          have hX0 := Lib.hid x0
          have hX1 := Lib.hid x1
          have hX2 := Lib.hid x2
          go_region_held3 (fun w' => w'.cell? (ad.add (kk * 3)) = some (.string x.f0) ∧ w'.cell? ⟨(ad.add (kk * 3)).block, (ad.add (kk * 3)).off + 1, none⟩ = some (.int .i64 x.f1) ∧ w'.cell? ⟨(ad.add (kk * 3)).block, (ad.add (kk * 3)).off + 2, none⟩ = some (.string x.f2) ∧ Below W4.heap.size W4 w') ((first | assumption | exact keepF hX0.out hX1.out hX2.out (by with_reducible repeat (first | assumption | exact Below.refl _ _ | apply below_alloc | apply pw_below_drewN | apply below_drew1))))
            (first
              | (refine Kd.R_append_rows_step k74 (w0 := W4) W4.heap.size (by rfl) (.tmp 33) (.tmp 36) 28 74 (.agg #[.string ⟨#[]⟩, .int .i64 0, .string ⟨#[]⟩]) 40 (by rfl) Tryz.underlying28 info74 rfl (by decide) (by decide) _ ([] : List FileT) (out.take 0) _ 0 c3 (fun _ => True) (fun _ => False) (by rfl) (by rfl) ?aO ?aR (fun _ _ h => h) (fun _ h => h.elim) (fun _ _ => trivial) ?aB ?aS ?aL ?_
                 (case aO => exact R_emptyF (by first | exact Nat.le_refl _ | exact Nat.le_succ _) (by (with_reducible repeat (first | exact blk_new _ _ | exact blk_new1 _ _ _ | refine blk_drew ?_ | refine blk_alloc ?_ _))))
                 (case aR => exact C_takeF (Kd.C_below HCO.out (by with_reducible repeat (first | assumption | exact Below.refl _ _ | apply below_alloc | apply pw_below_drewN | apply below_drew1))) hnn)
                 (case aB => exact (by with_reducible repeat (first | assumption | exact Below.refl _ _ | apply below_alloc | apply pw_below_drewN | apply below_drew1)))
                 (case aS => exact below_size (by with_reducible repeat (first | assumption | exact Below.refl _ _ | apply below_alloc | apply pw_below_drewN | apply below_drew1)))
                 (case aL => simp only [List.length_nil]; have := HL.out; omega)
                 intro v1 w1 ho1 hb1 hg1 hat1
                 clear hat1)
              | (refine Kd.R_append_rows_step k74 (w0 := W4) W4.heap.size (by rfl) (.tmp 37) (.tmp 42) 28 74 (.agg #[.string ⟨#[]⟩, .int .i64 0, .string ⟨#[]⟩]) 40 (by rfl) Tryz.underlying28 info74 rfl (by decide) (by decide) v1 ([] ++ out.take 0) [x] _ 1 1 (fun _ => True) (fun _ => False) (by rfl) (by rfl) ?aO ?aR (fun _ _ h => h) (fun _ h => h.elim) (fun _ _ => trivial) ?aB ?aS ?aL ?_
                 (case aO => exact (by with_reducible repeat (first | exact ho1 | apply Kd.R_alloc | apply Kd.R_drewN | apply Kd.R_drew)))
                 (case aR => refine C_oneF ?_; first | ((with_reducible repeat (first | exact blk_new _ _ | exact blk_new1 _ _ _ | refine blk_drew ?_ | refine blk_alloc ?_ _)); done) | (refine (grown_at hg1 _ rfl _ (by rw [size_two]; omega) (by first | exact Nat.ne_of_gt (Nat.lt_succ_self _) | exact Nat.ne_of_lt (Nat.lt_succ_self _))).trans ?_; (with_reducible repeat (first | exact blk_new _ _ | exact blk_new1 _ _ _ | refine blk_drew ?_ | refine blk_alloc ?_ _)); done))
                 (case aB => exact (by with_reducible repeat (first | assumption | exact Below.refl _ _ | apply below_alloc | apply pw_below_drewN | apply below_drew1)))
                 (case aS => exact below_size (by with_reducible repeat (first | assumption | exact Below.refl _ _ | apply below_alloc | apply pw_below_drewN | apply below_drew1)))
                 (case aL => rw [List.nil_append, List.length_take]; have := HL.out; omega)
                 clear ho1 hg1
                 intro v2 w2 ho2 hb2 hg2 hat2
                 clear hg2 hat2)
              | (refine Kd.R_append_rows_step k74 (w0 := W4) W4.heap.size (by rfl) (.tmp 43) (.tmp 46) 28 74 (.agg #[.string ⟨#[]⟩, .int .i64 0, .string ⟨#[]⟩]) 40 (by rfl) Tryz.underlying28 info74 rfl (by decide) (by decide) v2 ([] ++ out.take 0 ++ [x]) (out.drop 0) _ (out.length - 0) (c3 - 0) (fun _ => True) (fun _ => False) (by rfl) (by rfl) ?aO ?aR (fun _ _ h => h) (fun _ h => h.elim) (fun _ _ => trivial) ?aB ?aS ?aL ?_
                 (case aO => exact (by with_reducible repeat (first | exact ho2 | apply Kd.R_alloc | apply Kd.R_drewN | apply Kd.R_drew)))
                 (case aR => first | exact C_dropF (Kd.C_below HCO.out (by with_reducible repeat (first | assumption | exact Below.refl _ _ | apply below_alloc | apply pw_below_drewN | apply below_drew1))) hnn HC3' | exact Kd.C_below HCO.out (by with_reducible repeat (first | assumption | exact Below.refl _ _ | apply below_alloc | apply pw_below_drewN | apply below_drew1)))
                 (case aB => exact (by with_reducible repeat (first | assumption | exact Below.refl _ _ | apply below_alloc | apply pw_below_drewN | apply below_drew1)))
                 (case aS => exact below_size (by with_reducible repeat (first | assumption | exact Below.refl _ _ | apply below_alloc | apply pw_below_drewN | apply below_drew1)))
                 (case aL => rw [List.nil_append, List.length_append, List.length_take, List.length_singleton]; have := HL.out; omega)
                 clear ho2
                 intro v3 w3 ho3 hb3 hg3 hat3
                 clear hg3 hat3))
          all_goals go_wp2
          all_goals (
            have hins : insF out x = (out.take 0 ++ [x]) ++ out.drop 0 := by
              unfold insF
              rw [HPL.out]
            rw [List.nil_append, ← hins, ← HT.out] at ho3
            have HO3 := Lib.hid (Kd.R_lower ho3 HS4.out)
            have HB3 := Lib.hid (AB4.out.trans (hb3.mono AB4.out.size))
            clear ho3 hb3 hins x0 x1 x2
            go_roundg (l0.length - (kk + 1))
            case measure => omega
            case rel => exact ⟨kk + 1, by omega, Nat.le_refl _, by go_num, HO3.out, HB3.out⟩)
    · have hke : kk = l0.length := by omega
      have hltz : ¬ (kk : Int) < (l0.length : Int) := by omega
      have AO2 := AO.out
      rw [hke, List.take_length] at AO2
      have HO2 := Lib.hid AO2
      clear AO2 AO hke
      go_wp2
      go_ret
      exact ⟨_, rfl, HO2.out, AB.out⟩
end Go.Proofs.YtjibadlbiapcmaaGreatDoor.PX.X

namespace Go.Proofs.YtjibadlbiapcmaaGreatDoor.PX
open Go.RowKit Go.Proofs.YtjibadlbiapcmaaGreatDoorW.PrintWords Go.Proofs.YtjibadlbiapcmaaGreatDoorW.PrintLast Go.Proofs.YtjibadlbiapcmaaGreatDoorW.PrintMore
attribute [local go_sem] max2_int min2_int max_two min_two max_three min_three max_four min_four   -- for this text's walks alone
set_option linter.unusedVariables false
set_option linter.unusedSimpArgs false

/-! ### spec_l7Sort: function 82 -/
def spec_l7Sort.f (l0 : List X.FileT) : Option (List X.FileT) := if l0.length ≤ 1048576 then some (X.sortF l0) else none
theorem spec_l7Sort.calls (A0 : Option Addr) (c0 : Nat) (l0 : List X.FileT) (r : List X.FileT) (w : World) (hr0 : Kd.C k74 w A0 l0.length l0) (hc0 : l0.length ≤ c0) (h : spec_l7Sort.f l0 = some r) :
  Calls Tryz.prog 82 #[.slice A0 l0.length c0] w fun e w' => ∃ v0_ : Value, e = .returned (v0_) ∧ Kd.R k74 74 w' w.heap.size (fun _ => True) v0_ r ∧ Below w.heap.size w w' := by
 unfold spec_l7Sort.f at h
 by_cases hk : l0.length ≤ 1048576
 ·
  rw [if_pos hk] at h
  obtain rfl := Option.some.inj h
  exact X.sortF_calls A0 c0 l0 w hr0 hk
 ·
  rw [if_neg hk] at h
  cases h


/-! ### spec_l7Paths: function 46 -/
def spec_l7Paths.l0 : Nat → List (S74) → List ByteArray → Int → Option (List ByteArray)
 | 0, _, _, _ => none
 | k + 1, x5, x6, x7 => if x7 < (x5.length : Int) then (if x7 = 0 then (if 0 ≤ x7 then (if x6.length < 8796093022208 then (spec_l7Paths.l0 k x5 (x6 ++ [(rd_T74 x5 x7).f0]) (wrap64 (x7 + 1))) else (none)) else (none)) else (if 0 ≤ x7 then (if 0 ≤ (wrap64 (x7 - 1)) then (if (wrap64 (x7 - 1)) < (x5.length : Int) then (if ((rd_T74 x5 x7).f0).toList = ((rd_T74 x5 (wrap64 (x7 - 1))).f0).toList then (spec_l7Paths.l0 k x5 x6 (wrap64 (x7 + 1))) else (if x6.length < 8796093022208 then (spec_l7Paths.l0 k x5 (x6 ++ [(rd_T74 x5 x7).f0]) (wrap64 (x7 + 1))) else (none))) else (none)) else (none)) else (none))) else (some x6)
def spec_l7Paths.f (k : Nat) (l0 : List (S74)) (l1 : List (S74)) : Option (List ByteArray) := (some (([] : List (S74)) : List (S74))).bind fun y131 => (if y131.length + l0.length < 3518437208883 then ((some (y131 ++ l0 : List (S74))).bind fun y134 => (if y134.length + l1.length < 3518437208883 then ((spec_l7Sort.f (y134 ++ l1)).bind fun t140 => (spec_l7Paths.l0 k t140 (([] : List ByteArray)) 0)) else (none))) else (none))
theorem spec_l7Paths.mono_l : ∀ k, (∀ y0 y1 y2, LeO (spec_l7Paths.l0 k y0 y1 y2) (spec_l7Paths.l0 (k + 1) y0 y1 y2))
 | 0 => fun _ _ _ r h => by simp [spec_l7Paths.l0] at h
 | k + 1 => by
  have ih0 := spec_l7Paths.mono_l k
  ·
   intro y0 y1 y2
   unfold spec_l7Paths.l0
   repeat' first
   | (with_reducible exact ih0 _ _ _)
   | (with_reducible exact LeO.refl _)
   | (with_reducible exact LeO.none _)
   | (with_reducible refine LeO.ite ?_ ?_)
   | (with_reducible refine LeO.bind ?_ (fun _ => ?_))
   | exact ih0 _ _ _
   | exact LeO.none _
   | refine LeO.ite ?_ ?_
   | refine LeO.bind ?_ (fun _ => ?_)
theorem spec_l7Paths.mono : ∀ a0 a1 k, LeO (spec_l7Paths.f k a0 a1) (spec_l7Paths.f (k + 1) a0 a1) := by
 intro a0 a1 k
 have ih0 := spec_l7Paths.mono_l k
 unfold spec_l7Paths.f
 repeat' first
   | (with_reducible exact ih0 _ _ _)
   | (with_reducible exact LeO.refl _)
   | (with_reducible exact LeO.none _)
   | (with_reducible refine LeO.ite ?_ ?_)
   | (with_reducible refine LeO.bind ?_ (fun _ => ?_))
   | exact ih0 _ _ _
   | exact LeO.none _
   | refine LeO.ite ?_ ?_
   | refine LeO.bind ?_ (fun _ => ?_)
set_option maxHeartbeats 8000000 in
set_option maxRecDepth 100000 in
theorem spec_l7Paths.calls (k : Nat) (A0 : Option Addr) (c0 : Nat) (l0 : List (S74)) (A1 : Option Addr) (c1 : Nat) (l1 : List (S74)) (r : List ByteArray) (w : World) (hr0 : Kd.C k74 w A0 l0.length l0) (hc0 : l0.length ≤ c0) (hr1 : Kd.C k74 w A1 l1.length l1) (hc1 : l1.length ≤ c1) (h : spec_l7Paths.f k l0 l1 = some r) :
  Calls Tryz.prog 46 #[.slice A0 l0.length c0, .slice A1 l1.length c1] w fun e w' => ∃ v0_ : Value, e = .returned (v0_) ∧ Kd.R Kd.string 9 w' w.heap.size (fun _ => True) v0_ r ∧ Below w.heap.size w w' := by
 have HR0 := zK hr0
 have HC0 := zK hc0
 clear hr0 hc0
 have HR1 := zK hr1
 have HC1 := zK hc1
 clear hr1 hc1
 have HB := zK (Below.refl w.heap.size w)
 have H : ((some (([] : List (S74)) : List (S74))).bind fun y131 => (if y131.length + l0.length < 3518437208883 then ((some (y131 ++ l0 : List (S74))).bind fun y134 => (if y134.length + l1.length < 3518437208883 then ((spec_l7Sort.f (y134 ++ l1)).bind fun t140 => (spec_l7Paths.l0 k t140 (([] : List ByteArray)) 0)) else (none))) else (none))) = some r := h
 clear h
 obtain ⟨y131, hy131⟩ : ∃ y_ : List (S74), y_ = (([] : List (S74))) := ⟨_, rfl⟩
 replace H : (if y131.length + l0.length < 3518437208883 then ((some (y131 ++ l0 : List (S74))).bind fun y134 => (if y134.length + l1.length < 3518437208883 then ((spec_l7Sort.f (y134 ++ l1)).bind fun t140 => (spec_l7Paths.l0 k t140 (([] : List ByteArray)) 0)) else (none))) else (none)) = some r := by first | (rw [hy131]; with_reducible exact H) | (have H2_ := (Option.bind_some _ _).symm.trans H; rw [hy131]; with_reducible exact H2_) | (have H2_ := (Option.bind_some _ _).symm.trans H; with_reducible exact H2_) | with_reducible exact H | (rw [hy131]; exact H) | exact H
 have Ny131 := zK hy131
 clear hy131
 by_cases c3 : y131.length + l0.length < 3518437208883
 ·
  rw [if_pos c3] at H
  have LMc3 := zK c3
  clear c3
  obtain ⟨y134, hy134⟩ : ∃ y_ : List (S74), y_ = (y131 ++ l0) := ⟨_, rfl⟩
  replace H : (if y134.length + l1.length < 3518437208883 then ((spec_l7Sort.f (y134 ++ l1)).bind fun t140 => (spec_l7Paths.l0 k t140 (([] : List ByteArray)) 0)) else (none)) = some r := by first | (rw [hy134]; with_reducible exact H) | (have H2_ := (Option.bind_some _ _).symm.trans H; rw [hy134]; with_reducible exact H2_) | (have H2_ := (Option.bind_some _ _).symm.trans H; with_reducible exact H2_) | with_reducible exact H | (rw [hy134]; exact H) | exact H
  have Ny134 := zK hy134
  clear hy134
  by_cases c4 : y134.length + l1.length < 3518437208883
  ·
   rw [if_pos c4] at H
   have LMc4 := zK c4
   clear c4
   obtain ⟨y137, hy137⟩ : ∃ y_ : List (S74), y_ = (y134 ++ l1) := ⟨_, rfl⟩
   replace H : ((spec_l7Sort.f y137).bind fun t140 => (spec_l7Paths.l0 k t140 (([] : List ByteArray)) 0)) = some r := by first | (rw [hy137]; with_reducible exact H) | (have H2_ := (Option.bind_some _ _).symm.trans H; rw [hy137]; with_reducible exact H2_) | (have H2_ := (Option.bind_some _ _).symm.trans H; with_reducible exact H2_) | with_reducible exact H | (rw [hy137]; exact H) | exact H
   have Ny137 := zK hy137
   clear hy137
   replace H := Option.bind_eq_some_iff.mp H
   obtain ⟨t140, A50, H⟩ := H
   replace H : (spec_l7Paths.l0 k t140 (([] : List ByteArray)) 0) = some r := H
   have A5 := zK A50
   clear A50
   obtain ⟨y143, hy143⟩ : ∃ y_ : List ByteArray, y_ = (([] : List ByteArray)) := ⟨_, rfl⟩
   replace H : (spec_l7Paths.l0 k t140 y143 0) = some r := by first | (rw [hy143]; with_reducible exact H) | (have H2_ := (Option.bind_some _ _).symm.trans H; rw [hy143]; with_reducible exact H2_) | (have H2_ := (Option.bind_some _ _).symm.trans H; with_reducible exact H2_) | with_reducible exact H | (rw [hy143]; exact H) | exact H
   have Ny143 := zK hy143
   clear hy143
   have H' := zK H
   clear H
   go_enter Tryz.func46, Tryz.ntmps46
   go_wp2_with (first | ((with_reducible refine gate_dst (N := 8) rfl ?_); refine Kd.R_lit k74 _ 74 ?hg (N := 8) ?hd (xs := ([] : List (S74))) (inner := []) (ok := fun _ => True) (okp := fun _ => True) ?hr ?hp (fun _ hk => hk) trivial (Below.refl _ _) (Nat.le_refl _) (by simp) ?_; (case hd => rfl); (case hg => rfl); (case hr => first | (go_simp; done) | (go_simp; rfl)); (case hp => exact (Reps.none _ _)); intro v132 w6 ho7 hb hg_ hnew_; clear hg_ hnew_; (first | rw [← Ny131.out] at ho7 | (simp only [Int.reduceToNat] at ho7; rw [← Ny131.out] at ho7)); have n0_ := zK (Kd.R_lower ho7 (below_size (by repeat (first | (with_reducible first | exact HB.out | apply zA | apply zN | apply zD) | exact HB.out)))); have n1_ := zK (below_step (by repeat (first | (with_reducible first | exact HB.out | apply zA | apply zN | apply zD) | exact HB.out)) hb); clear HB; have HO133 := n0_; have HB := n1_; clear n0_ n1_; clear hb ho7) | ((with_reducible refine gate_builtin (b := .append) (xs := #[.tmp 8, .tmp 9]) rfl ?_); at_builtin; refine Kd.R_append_rows k74 (w0 := w) w.heap.size rfl (.tmp 8) (.tmp 9) 28 74 (.agg #[(.string ⟨#[]⟩), (.int .i64 0), (.string ⟨#[]⟩)]) 40 rfl Tryz.underlying28 info74 rfl (by decide) (by omega) v132 y131 l0 _ _ _ (fun _ => True) (fun _ => False) rfl rfl ?aO ?aR (fun _ _ h => h) (fun _ h => h.elim) ?aF ?aB ?aS ?aL ?_; (case aR => repeat (first | exact (Kd.C_below HR0.out HB.out) | (with_reducible refine Kd.C_alloc ?_ _) | (with_reducible refine Kd.C_drewN ?_ _) | (with_reducible refine Kd.C_drew ?_))); (case aB => exact (by repeat (first | (with_reducible first | exact HB.out | apply zA | apply zN | apply zD) | exact HB.out))); (case aF => exact (fun _ _ => trivial)); (case aO => exact (by (with_reducible repeat (first | apply zR | apply zV | apply zW)); exact HO133.out)); (case aS => exact (below_size (by repeat (first | (with_reducible first | exact HB.out | apply zA | apply zN | apply zD) | exact HB.out)))); (case aL => have := LMc3.out; omega); intro v135 w8 ho hb hg hat; rw [← Ny134.out] at ho; have n0_ := zK (hb); have n1_ := zK (ho); clear HB; clear HO133; have HB := n0_; have HO136 := n1_; clear n0_ n1_; clear ho hb hg hat) | ((with_reducible refine gate_builtin (b := .append) (xs := #[.tmp 10, .tmp 11]) rfl ?_); at_builtin; refine Kd.R_append_rows k74 (w0 := w) w.heap.size rfl (.tmp 10) (.tmp 11) 28 74 (.agg #[(.string ⟨#[]⟩), (.int .i64 0), (.string ⟨#[]⟩)]) 40 rfl Tryz.underlying28 info74 rfl (by decide) (by omega) v135 y134 l1 _ _ _ (fun _ => True) (fun _ => False) rfl rfl ?aO ?aR (fun _ _ h => h) (fun _ h => h.elim) ?aF ?aB ?aS ?aL ?_; (case aR => repeat (first | exact (Kd.C_below HR1.out HB.out) | (with_reducible refine Kd.C_alloc ?_ _) | (with_reducible refine Kd.C_drewN ?_ _) | (with_reducible refine Kd.C_drew ?_))); (case aB => exact (by repeat (first | (with_reducible first | exact HB.out | apply zA | apply zN | apply zD) | exact HB.out))); (case aF => exact (fun _ _ => trivial)); (case aO => exact (by (with_reducible repeat (first | apply zR | apply zV | apply zW)); exact HO136.out)); (case aS => exact (below_size (by repeat (first | (with_reducible first | exact HB.out | apply zA | apply zN | apply zD) | exact HB.out)))); (case aL => have := LMc4.out; omega); intro v138 w9 ho hb hg hat; rw [← Ny137.out] at ho; have n0_ := zK (hb); have n1_ := zK (ho); clear HB; clear HO136; have HB := n0_; have HO139 := n1_; clear n0_ n1_; clear ho hb hg hat; obtain ⟨Ao10, co10, eo10⟩ := Kd.R_slice HO139.out; subst eo10) | (go_at_call 82; (with_reducible refine (spec_l7Sort.calls _ _ y137 t140 _ ?side1 ?side2 A5.out).mono ?_); (case side1 => repeat (first | exact (Kd.R_reads' HO139.out).2.2 | (with_reducible refine Kd.C_alloc ?_ _) | (with_reducible refine Kd.C_drewN ?_ _) | (with_reducible refine Kd.C_drew ?_))); (case side2 => exact (Kd.R_reads' HO139.out).2.1); rintro e w11 ⟨v141, rfl, ho0, hb⟩; have n0_ := zK (Kd.R_elder' (by (with_reducible repeat (first | apply zR | apply zV | apply zW)); exact HO139.out) (Kd.R_base ho0) hb); have n1_ := zK (Kd.R_lower (Kd.R_new' ho0 (Kd.R_lt (by (with_reducible repeat (first | apply zR | apply zV | apply zW)); exact HO139.out))) (below_size (by repeat (first | (with_reducible first | exact HB.out | apply zA | apply zN | apply zD) | exact HB.out)))); have n2_ := zK (below_step (by repeat (first | (with_reducible first | exact HB.out | apply zA | apply zN | apply zD) | exact HB.out)) hb); clear HO139; clear HB; have HO139 := n0_; have HO142 := n1_; have HB := n2_; clear n0_ n1_ n2_; (try clear hb); (try clear hb2); (try clear hk); (try clear hi); (try clear ho0)) | ((with_reducible refine gate_dst (N := 14) rfl ?_); refine Kd.R_lit Kd.string _ 9 ?hg (N := 14) ?hd (xs := ([] : List ByteArray)) (inner := []) (ok := fun _ => True) (okp := fun _ => True) ?hr ?hp (fun _ hk => hk) trivial (Below.refl _ _) (Nat.le_refl _) (by simp) ?_; (case hd => rfl); (case hg => rfl); (case hr => first | (go_simp; done) | (go_simp; rfl)); (case hp => exact (Reps.none _ _)); intro v144 w12 ho13 hb hg_ hnew_; clear hg_ hnew_; (first | rw [← Ny143.out] at ho13 | (simp only [Int.reduceToNat] at ho13; rw [← Ny143.out] at ho13)); have n0_ := zK (Kd.R_below (by (with_reducible repeat (first | apply zR | apply zV | apply zW)); exact HO139.out) hb); have n1_ := zK (Kd.R_below (by (with_reducible repeat (first | apply zR | apply zV | apply zW)); exact HO142.out) hb); have n2_ := zK (Kd.R_lower ho13 (below_size (by repeat (first | (with_reducible first | exact HB.out | apply zA | apply zN | apply zD) | exact HB.out)))); have n3_ := zK (below_step (by repeat (first | (with_reducible first | exact HB.out | apply zA | apply zN | apply zD) | exact HB.out)) hb); clear HO139; clear HO142; clear HB; have HO139 := n0_; have HO142 := n1_; have HO145 := n2_; have HB := n3_; clear n0_ n1_ n2_ n3_; clear hb ho13))
   repeat (go_quiet (first | ((with_reducible refine gate_dst (N := 8) rfl ?_); refine Kd.R_lit k74 _ 74 ?hg (N := 8) ?hd (xs := ([] : List (S74))) (inner := []) (ok := fun _ => True) (okp := fun _ => True) ?hr ?hp (fun _ hk => hk) trivial (Below.refl _ _) (Nat.le_refl _) (by simp) ?_; (case hd => rfl); (case hg => rfl); (case hr => first | (go_simp; done) | (go_simp; rfl)); (case hp => exact (Reps.none _ _)); intro v132 w6 ho7 hb hg_ hnew_; clear hg_ hnew_; (first | rw [← Ny131.out] at ho7 | (simp only [Int.reduceToNat] at ho7; rw [← Ny131.out] at ho7)); have n0_ := zK (Kd.R_lower ho7 (below_size (by repeat (first | (with_reducible first | exact HB.out | apply zA | apply zN | apply zD) | exact HB.out)))); have n1_ := zK (below_step (by repeat (first | (with_reducible first | exact HB.out | apply zA | apply zN | apply zD) | exact HB.out)) hb); clear HB; have HO133 := n0_; have HB := n1_; clear n0_ n1_; clear hb ho7) | ((with_reducible refine gate_builtin (b := .append) (xs := #[.tmp 8, .tmp 9]) rfl ?_); at_builtin; refine Kd.R_append_rows k74 (w0 := w) w.heap.size rfl (.tmp 8) (.tmp 9) 28 74 (.agg #[(.string ⟨#[]⟩), (.int .i64 0), (.string ⟨#[]⟩)]) 40 rfl Tryz.underlying28 info74 rfl (by decide) (by omega) v132 y131 l0 _ _ _ (fun _ => True) (fun _ => False) rfl rfl ?aO ?aR (fun _ _ h => h) (fun _ h => h.elim) ?aF ?aB ?aS ?aL ?_; (case aR => repeat (first | exact (Kd.C_below HR0.out HB.out) | (with_reducible refine Kd.C_alloc ?_ _) | (with_reducible refine Kd.C_drewN ?_ _) | (with_reducible refine Kd.C_drew ?_))); (case aB => exact (by repeat (first | (with_reducible first | exact HB.out | apply zA | apply zN | apply zD) | exact HB.out))); (case aF => exact (fun _ _ => trivial)); (case aO => exact (by (with_reducible repeat (first | apply zR | apply zV | apply zW)); exact HO133.out)); (case aS => exact (below_size (by repeat (first | (with_reducible first | exact HB.out | apply zA | apply zN | apply zD) | exact HB.out)))); (case aL => have := LMc3.out; omega); intro v135 w8 ho hb hg hat; rw [← Ny134.out] at ho; have n0_ := zK (hb); have n1_ := zK (ho); clear HB; clear HO133; have HB := n0_; have HO136 := n1_; clear n0_ n1_; clear ho hb hg hat) | ((with_reducible refine gate_builtin (b := .append) (xs := #[.tmp 10, .tmp 11]) rfl ?_); at_builtin; refine Kd.R_append_rows k74 (w0 := w) w.heap.size rfl (.tmp 10) (.tmp 11) 28 74 (.agg #[(.string ⟨#[]⟩), (.int .i64 0), (.string ⟨#[]⟩)]) 40 rfl Tryz.underlying28 info74 rfl (by decide) (by omega) v135 y134 l1 _ _ _ (fun _ => True) (fun _ => False) rfl rfl ?aO ?aR (fun _ _ h => h) (fun _ h => h.elim) ?aF ?aB ?aS ?aL ?_; (case aR => repeat (first | exact (Kd.C_below HR1.out HB.out) | (with_reducible refine Kd.C_alloc ?_ _) | (with_reducible refine Kd.C_drewN ?_ _) | (with_reducible refine Kd.C_drew ?_))); (case aB => exact (by repeat (first | (with_reducible first | exact HB.out | apply zA | apply zN | apply zD) | exact HB.out))); (case aF => exact (fun _ _ => trivial)); (case aO => exact (by (with_reducible repeat (first | apply zR | apply zV | apply zW)); exact HO136.out)); (case aS => exact (below_size (by repeat (first | (with_reducible first | exact HB.out | apply zA | apply zN | apply zD) | exact HB.out)))); (case aL => have := LMc4.out; omega); intro v138 w9 ho hb hg hat; rw [← Ny137.out] at ho; have n0_ := zK (hb); have n1_ := zK (ho); clear HB; clear HO136; have HB := n0_; have HO139 := n1_; clear n0_ n1_; clear ho hb hg hat; obtain ⟨Ao10, co10, eo10⟩ := Kd.R_slice HO139.out; subst eo10) | (go_at_call 82; (with_reducible refine (spec_l7Sort.calls _ _ y137 t140 _ ?side1 ?side2 A5.out).mono ?_); (case side1 => repeat (first | exact (Kd.R_reads' HO139.out).2.2 | (with_reducible refine Kd.C_alloc ?_ _) | (with_reducible refine Kd.C_drewN ?_ _) | (with_reducible refine Kd.C_drew ?_))); (case side2 => exact (Kd.R_reads' HO139.out).2.1); rintro e w11 ⟨v141, rfl, ho0, hb⟩; have n0_ := zK (Kd.R_elder' (by (with_reducible repeat (first | apply zR | apply zV | apply zW)); exact HO139.out) (Kd.R_base ho0) hb); have n1_ := zK (Kd.R_lower (Kd.R_new' ho0 (Kd.R_lt (by (with_reducible repeat (first | apply zR | apply zV | apply zW)); exact HO139.out))) (below_size (by repeat (first | (with_reducible first | exact HB.out | apply zA | apply zN | apply zD) | exact HB.out)))); have n2_ := zK (below_step (by repeat (first | (with_reducible first | exact HB.out | apply zA | apply zN | apply zD) | exact HB.out)) hb); clear HO139; clear HB; have HO139 := n0_; have HO142 := n1_; have HB := n2_; clear n0_ n1_ n2_; (try clear hb); (try clear hb2); (try clear hk); (try clear hi); (try clear ho0)) | ((with_reducible refine gate_dst (N := 14) rfl ?_); refine Kd.R_lit Kd.string _ 9 ?hg (N := 14) ?hd (xs := ([] : List ByteArray)) (inner := []) (ok := fun _ => True) (okp := fun _ => True) ?hr ?hp (fun _ hk => hk) trivial (Below.refl _ _) (Nat.le_refl _) (by simp) ?_; (case hd => rfl); (case hg => rfl); (case hr => first | (go_simp; done) | (go_simp; rfl)); (case hp => exact (Reps.none _ _)); intro v144 w12 ho13 hb hg_ hnew_; clear hg_ hnew_; (first | rw [← Ny143.out] at ho13 | (simp only [Int.reduceToNat] at ho13; rw [← Ny143.out] at ho13)); have n0_ := zK (Kd.R_below (by (with_reducible repeat (first | apply zR | apply zV | apply zW)); exact HO139.out) hb); have n1_ := zK (Kd.R_below (by (with_reducible repeat (first | apply zR | apply zV | apply zW)); exact HO142.out) hb); have n2_ := zK (Kd.R_lower ho13 (below_size (by repeat (first | (with_reducible first | exact HB.out | apply zA | apply zN | apply zD) | exact HB.out)))); have n3_ := zK (below_step (by repeat (first | (with_reducible first | exact HB.out | apply zA | apply zN | apply zD) | exact HB.out)) hb); clear HO139; clear HO142; clear HB; have HO139 := n0_; have HO142 := n1_; have HO145 := n2_; have HB := n3_; clear n0_ n1_ n2_ n3_; clear hb ho13)); try go_wp2_with (first | ((with_reducible refine gate_dst (N := 8) rfl ?_); refine Kd.R_lit k74 _ 74 ?hg (N := 8) ?hd (xs := ([] : List (S74))) (inner := []) (ok := fun _ => True) (okp := fun _ => True) ?hr ?hp (fun _ hk => hk) trivial (Below.refl _ _) (Nat.le_refl _) (by simp) ?_; (case hd => rfl); (case hg => rfl); (case hr => first | (go_simp; done) | (go_simp; rfl)); (case hp => exact (Reps.none _ _)); intro v132 w6 ho7 hb hg_ hnew_; clear hg_ hnew_; (first | rw [← Ny131.out] at ho7 | (simp only [Int.reduceToNat] at ho7; rw [← Ny131.out] at ho7)); have n0_ := zK (Kd.R_lower ho7 (below_size (by repeat (first | (with_reducible first | exact HB.out | apply zA | apply zN | apply zD) | exact HB.out)))); have n1_ := zK (below_step (by repeat (first | (with_reducible first | exact HB.out | apply zA | apply zN | apply zD) | exact HB.out)) hb); clear HB; have HO133 := n0_; have HB := n1_; clear n0_ n1_; clear hb ho7) | ((with_reducible refine gate_builtin (b := .append) (xs := #[.tmp 8, .tmp 9]) rfl ?_); at_builtin; refine Kd.R_append_rows k74 (w0 := w) w.heap.size rfl (.tmp 8) (.tmp 9) 28 74 (.agg #[(.string ⟨#[]⟩), (.int .i64 0), (.string ⟨#[]⟩)]) 40 rfl Tryz.underlying28 info74 rfl (by decide) (by omega) v132 y131 l0 _ _ _ (fun _ => True) (fun _ => False) rfl rfl ?aO ?aR (fun _ _ h => h) (fun _ h => h.elim) ?aF ?aB ?aS ?aL ?_; (case aR => repeat (first | exact (Kd.C_below HR0.out HB.out) | (with_reducible refine Kd.C_alloc ?_ _) | (with_reducible refine Kd.C_drewN ?_ _) | (with_reducible refine Kd.C_drew ?_))); (case aB => exact (by repeat (first | (with_reducible first | exact HB.out | apply zA | apply zN | apply zD) | exact HB.out))); (case aF => exact (fun _ _ => trivial)); (case aO => exact (by (with_reducible repeat (first | apply zR | apply zV | apply zW)); exact HO133.out)); (case aS => exact (below_size (by repeat (first | (with_reducible first | exact HB.out | apply zA | apply zN | apply zD) | exact HB.out)))); (case aL => have := LMc3.out; omega); intro v135 w8 ho hb hg hat; rw [← Ny134.out] at ho; have n0_ := zK (hb); have n1_ := zK (ho); clear HB; clear HO133; have HB := n0_; have HO136 := n1_; clear n0_ n1_; clear ho hb hg hat) | ((with_reducible refine gate_builtin (b := .append) (xs := #[.tmp 10, .tmp 11]) rfl ?_); at_builtin; refine Kd.R_append_rows k74 (w0 := w) w.heap.size rfl (.tmp 10) (.tmp 11) 28 74 (.agg #[(.string ⟨#[]⟩), (.int .i64 0), (.string ⟨#[]⟩)]) 40 rfl Tryz.underlying28 info74 rfl (by decide) (by omega) v135 y134 l1 _ _ _ (fun _ => True) (fun _ => False) rfl rfl ?aO ?aR (fun _ _ h => h) (fun _ h => h.elim) ?aF ?aB ?aS ?aL ?_; (case aR => repeat (first | exact (Kd.C_below HR1.out HB.out) | (with_reducible refine Kd.C_alloc ?_ _) | (with_reducible refine Kd.C_drewN ?_ _) | (with_reducible refine Kd.C_drew ?_))); (case aB => exact (by repeat (first | (with_reducible first | exact HB.out | apply zA | apply zN | apply zD) | exact HB.out))); (case aF => exact (fun _ _ => trivial)); (case aO => exact (by (with_reducible repeat (first | apply zR | apply zV | apply zW)); exact HO136.out)); (case aS => exact (below_size (by repeat (first | (with_reducible first | exact HB.out | apply zA | apply zN | apply zD) | exact HB.out)))); (case aL => have := LMc4.out; omega); intro v138 w9 ho hb hg hat; rw [← Ny137.out] at ho; have n0_ := zK (hb); have n1_ := zK (ho); clear HB; clear HO136; have HB := n0_; have HO139 := n1_; clear n0_ n1_; clear ho hb hg hat; obtain ⟨Ao10, co10, eo10⟩ := Kd.R_slice HO139.out; subst eo10) | (go_at_call 82; (with_reducible refine (spec_l7Sort.calls _ _ y137 t140 _ ?side1 ?side2 A5.out).mono ?_); (case side1 => repeat (first | exact (Kd.R_reads' HO139.out).2.2 | (with_reducible refine Kd.C_alloc ?_ _) | (with_reducible refine Kd.C_drewN ?_ _) | (with_reducible refine Kd.C_drew ?_))); (case side2 => exact (Kd.R_reads' HO139.out).2.1); rintro e w11 ⟨v141, rfl, ho0, hb⟩; have n0_ := zK (Kd.R_elder' (by (with_reducible repeat (first | apply zR | apply zV | apply zW)); exact HO139.out) (Kd.R_base ho0) hb); have n1_ := zK (Kd.R_lower (Kd.R_new' ho0 (Kd.R_lt (by (with_reducible repeat (first | apply zR | apply zV | apply zW)); exact HO139.out))) (below_size (by repeat (first | (with_reducible first | exact HB.out | apply zA | apply zN | apply zD) | exact HB.out)))); have n2_ := zK (below_step (by repeat (first | (with_reducible first | exact HB.out | apply zA | apply zN | apply zD) | exact HB.out)) hb); clear HO139; clear HB; have HO139 := n0_; have HO142 := n1_; have HB := n2_; clear n0_ n1_ n2_; (try clear hb); (try clear hb2); (try clear hk); (try clear hi); (try clear ho0)) | ((with_reducible refine gate_dst (N := 14) rfl ?_); refine Kd.R_lit Kd.string _ 9 ?hg (N := 14) ?hd (xs := ([] : List ByteArray)) (inner := []) (ok := fun _ => True) (okp := fun _ => True) ?hr ?hp (fun _ hk => hk) trivial (Below.refl _ _) (Nat.le_refl _) (by simp) ?_; (case hd => rfl); (case hg => rfl); (case hr => first | (go_simp; done) | (go_simp; rfl)); (case hp => exact (Reps.none _ _)); intro v144 w12 ho13 hb hg_ hnew_; clear hg_ hnew_; (first | rw [← Ny143.out] at ho13 | (simp only [Int.reduceToNat] at ho13; rw [← Ny143.out] at ho13)); have n0_ := zK (Kd.R_below (by (with_reducible repeat (first | apply zR | apply zV | apply zW)); exact HO139.out) hb); have n1_ := zK (Kd.R_below (by (with_reducible repeat (first | apply zR | apply zV | apply zW)); exact HO142.out) hb); have n2_ := zK (Kd.R_lower ho13 (below_size (by repeat (first | (with_reducible first | exact HB.out | apply zA | apply zN | apply zD) | exact HB.out)))); have n3_ := zK (below_step (by repeat (first | (with_reducible first | exact HB.out | apply zA | apply zN | apply zD) | exact HB.out)) hb); clear HO139; clear HO142; clear HB; have HO139 := n0_; have HO142 := n1_; have HO145 := n2_; have HB := n3_; clear n0_ n1_ n2_ n3_; clear hb ho13)))
   go_loopg [6, 7] k (fun kq v6 v7 w' => ∃ (x6_1 : List ByteArray) (x7_1 : Int), v7 = .int .i64 x7_1 ∧ Aside0 (spec_l7Paths.l0 kq t140 x6_1 x7_1 = some r) ∧ Aside0 (kq ≤ k) ∧ Aside0 (Kd.R k74 74 w' w.heap.size (fun _ => True) v141 t140) ∧ Aside0 (Kd.R Kd.string 9 w' w.heap.size (fun _ => True) v6 x6_1) ∧ Aside0 (Below w.heap.size w w'))
   case atStart => exact ⟨(y143), (0), (by first | rfl | (simp; done) | (simp [*]; done)), H', ⟨Nat.le_refl _⟩, ⟨by (with_reducible repeat (first | apply zR | apply zV | apply zW)); exact Kd.R_mono HO142.out (fun _ hk => trivial)⟩, ⟨by (with_reducible repeat (first | apply zR | apply zV | apply zW)); exact HO145.out⟩, ⟨by repeat (first | (with_reducible first | exact HB.out | apply zA | apply zN | apply zD) | exact HB.out)⟩⟩
   case round =>
    clear H'
    try clear c1
    try clear p2
    try clear c3
    try clear c4
    obtain ⟨x6_1, x7_1, rfl, HA, HK1, HO_5, HO_6, HB⟩ := hrel
    cases gk with
    | zero => exact absurd HA.out (by simp [spec_l7Paths.l0])
    | succ k1 =>
     have H := HA.out
     clear HA
     simp only [spec_l7Paths.l0] at H
     by_cases c14 : x7_1 < (t140.length : Int)
     ·
      rw [if_pos c14] at H
      have c14b0 : decide (x7_1 < (t140.length : Int)) = true := decide_eq_true c14
      clear c14
      by_cases c15 : x7_1 = 0
      ·
       rw [if_pos c15] at H
       have c15b0 : (x7_1 == 0) = true := beq_iff_eq.mpr c15
       have c15b1 : (x7_1 != 0) = false := bne_eq_false_iff_eq.mpr c15
       clear c15
       by_cases c16 : 0 ≤ x7_1
       ·
        rw [if_pos c16] at H
        have c16b0 : decide (0 ≤ x7_1) = true := decide_eq_true c16
        clear c16
        by_cases c17 : x6_1.length < 8796093022208
        ·
         rw [if_pos c17] at H
         have LMc17 := zK c17
         clear c17
         obtain ⟨y147, hy147⟩ : ∃ y_ : List ByteArray, y_ = (x6_1 ++ [(rd_T74 t140 x7_1).f0]) := ⟨_, rfl⟩
         replace H : (spec_l7Paths.l0 k1 t140 y147 (wrap64 (x7_1 + 1))) = some r := by first | (rw [hy147]; with_reducible exact H) | (have H2_ := (Option.bind_some _ _).symm.trans H; rw [hy147]; with_reducible exact H2_) | (have H2_ := (Option.bind_some _ _).symm.trans H; with_reducible exact H2_) | with_reducible exact H | (rw [hy147]; exact H) | exact H
         have Ny147 := zK hy147
         clear hy147
         have H' := zK H
         clear H
         obtain ⟨Ao18, co18, eo18⟩ := Kd.R_slice HO_5.out
         subst eo18
         have p146 : 0 ≤ (x7_1 : Int) := zX (by first | (with_reducible assumption) | assumption)
         have q146 : x7_1 < (t140.length : Int) := zX (by first | (with_reducible assumption) | assumption)
         obtain ⟨ad146, e146, hx146_0, hx146_1, hx146_2⟩ := at_T74 (Kd.R_reads' HO_5.out).2.2 x7_1 p146 q146
         cases e146
         replace p146 := eq_true p146
         replace q146 := eq_true q146
         go_wp2_with (first | ((with_reducible refine gate_builtin (b := .append) (xs := #[.tmp 37, .tmp 43]) rfl ?_); at_builtin; refine Kd.R_append Kd.string (w0 := w) w.heap.size rfl (.tmp 37) (.tmp 43) 35 9 (.string ⟨#[]⟩) 16 rfl Tryz.underlying35 info9 rfl (by decide) (by omega) u6 x6_1 ((rd_T74 t140 x7_1).f0) [.string ((rd_T74 t140 x7_1).f0)] (fun _ => True) (fun _ => False) rfl rfl ?aP (fun _ hk => hk.elim) ?aF ?aO ?aB ?aS ?aL ?_; (case aP => exact rfl); (case aB => exact (by repeat (first | (with_reducible first | exact HB.out | apply zA | apply zN | apply zD) | exact HB.out))); (case aF => exact (fun _ _ => trivial)); (case aO => exact (by (with_reducible repeat (first | apply zR | apply zV | apply zW)); exact HO_6.out)); (case aS => exact (below_size (by repeat (first | (with_reducible first | exact HB.out | apply zA | apply zN | apply zD) | exact HB.out)))); (case aL => have := LMc17.out; omega); intro v148 w19 ho hb hg hat; rw [← Ny147.out] at ho; have n0_ := zK (Kd.R_over' (by (with_reducible repeat (first | apply zR | apply zV | apply zW)); exact HO_5.out) (Kd.R_typed (by (with_reducible repeat (first | apply zR | apply zV | apply zW)); exact HO_6.out)) (by decide) hg); have n1_ := zK (hb); have n2_ := zK (ho); clear HO_5; clear HB; clear HO_6; have HO_5 := n0_; have HB := n1_; have HO149 := n2_; clear n0_ n1_ n2_; clear ho hb hg hat))
         repeat (go_quiet (first | ((with_reducible refine gate_builtin (b := .append) (xs := #[.tmp 37, .tmp 43]) rfl ?_); at_builtin; refine Kd.R_append Kd.string (w0 := w) w.heap.size rfl (.tmp 37) (.tmp 43) 35 9 (.string ⟨#[]⟩) 16 rfl Tryz.underlying35 info9 rfl (by decide) (by omega) u6 x6_1 ((rd_T74 t140 x7_1).f0) [.string ((rd_T74 t140 x7_1).f0)] (fun _ => True) (fun _ => False) rfl rfl ?aP (fun _ hk => hk.elim) ?aF ?aO ?aB ?aS ?aL ?_; (case aP => exact rfl); (case aB => exact (by repeat (first | (with_reducible first | exact HB.out | apply zA | apply zN | apply zD) | exact HB.out))); (case aF => exact (fun _ _ => trivial)); (case aO => exact (by (with_reducible repeat (first | apply zR | apply zV | apply zW)); exact HO_6.out)); (case aS => exact (below_size (by repeat (first | (with_reducible first | exact HB.out | apply zA | apply zN | apply zD) | exact HB.out)))); (case aL => have := LMc17.out; omega); intro v148 w19 ho hb hg hat; rw [← Ny147.out] at ho; have n0_ := zK (Kd.R_over' (by (with_reducible repeat (first | apply zR | apply zV | apply zW)); exact HO_5.out) (Kd.R_typed (by (with_reducible repeat (first | apply zR | apply zV | apply zW)); exact HO_6.out)) (by decide) hg); have n1_ := zK (hb); have n2_ := zK (ho); clear HO_5; clear HB; clear HO_6; have HO_5 := n0_; have HB := n1_; have HO149 := n2_; clear n0_ n1_ n2_; clear ho hb hg hat)); try go_wp2_with (first | ((with_reducible refine gate_builtin (b := .append) (xs := #[.tmp 37, .tmp 43]) rfl ?_); at_builtin; refine Kd.R_append Kd.string (w0 := w) w.heap.size rfl (.tmp 37) (.tmp 43) 35 9 (.string ⟨#[]⟩) 16 rfl Tryz.underlying35 info9 rfl (by decide) (by omega) u6 x6_1 ((rd_T74 t140 x7_1).f0) [.string ((rd_T74 t140 x7_1).f0)] (fun _ => True) (fun _ => False) rfl rfl ?aP (fun _ hk => hk.elim) ?aF ?aO ?aB ?aS ?aL ?_; (case aP => exact rfl); (case aB => exact (by repeat (first | (with_reducible first | exact HB.out | apply zA | apply zN | apply zD) | exact HB.out))); (case aF => exact (fun _ _ => trivial)); (case aO => exact (by (with_reducible repeat (first | apply zR | apply zV | apply zW)); exact HO_6.out)); (case aS => exact (below_size (by repeat (first | (with_reducible first | exact HB.out | apply zA | apply zN | apply zD) | exact HB.out)))); (case aL => have := LMc17.out; omega); intro v148 w19 ho hb hg hat; rw [← Ny147.out] at ho; have n0_ := zK (Kd.R_over' (by (with_reducible repeat (first | apply zR | apply zV | apply zW)); exact HO_5.out) (Kd.R_typed (by (with_reducible repeat (first | apply zR | apply zV | apply zW)); exact HO_6.out)) (by decide) hg); have n1_ := zK (hb); have n2_ := zK (ho); clear HO_5; clear HB; clear HO_6; have HO_5 := n0_; have HB := n1_; have HO149 := n2_; clear n0_ n1_ n2_; clear ho hb hg hat)))
         go_roundg k1
         case measure => have := HK1.out; omega
         case rel => exact ⟨(y147), (wrap64 (x7_1 + 1)), (by first | rfl | (simp; done) | (simp [*]; done)), H', ⟨by have := HK1.out; omega⟩, ⟨by (with_reducible repeat (first | apply zR | apply zV | apply zW)); exact HO_5.out⟩, ⟨by (with_reducible repeat (first | apply zR | apply zV | apply zW)); exact HO149.out⟩, ⟨by repeat (first | (with_reducible first | exact HB.out | apply zA | apply zN | apply zD) | exact HB.out)⟩⟩
        ·
         rw [if_neg c17] at H
         exact absurd H (by simp)
       ·
        rw [if_neg c16] at H
        exact absurd H (by simp)
      ·
       rw [if_neg c15] at H
       have c15b0 : (x7_1 == 0) = false := beq_eq_false_iff_ne.mpr c15
       have c15b1 : (x7_1 != 0) = true := bne_iff_ne.mpr c15
       by_cases c20 : 0 ≤ x7_1
       ·
        rw [if_pos c20] at H
        have c20b0 : decide (0 ≤ x7_1) = true := decide_eq_true c20
        clear c20
        obtain ⟨ji21, hji21⟩ : ∃ j_ : Int, (wrap64 (x7_1 - 1)) = j_ := ⟨_, rfl⟩
        replace H : (if 0 ≤ (ji21) then (if (ji21) < (t140.length : Int) then (if ((rd_T74 t140 x7_1).f0).toList = ((rd_T74 t140 (ji21)).f0).toList then (spec_l7Paths.l0 k1 t140 x6_1 (wrap64 (x7_1 + 1))) else (if x6_1.length < 8796093022208 then (spec_l7Paths.l0 k1 t140 (x6_1 ++ [(rd_T74 t140 x7_1).f0]) (wrap64 (x7_1 + 1))) else (none))) else (none)) else (none)) = some r := by first | (rw [hji21] at H; exact H) | (simp only [hji21] at H ⊢; exact H)
        have hji21w : (IntKind.i64.wrap (x7_1 - 1)) = ji21 := (i64_w _).trans hji21
        by_cases c22 : 0 ≤ (ji21)
        ·
         rw [if_pos c22] at H
         have c22b0 : decide (0 ≤ (ji21)) = true := decide_eq_true c22
         clear c22
         by_cases c23 : (ji21) < (t140.length : Int)
         ·
          rw [if_pos c23] at H
          have c23b0 : decide ((ji21) < (t140.length : Int)) = true := decide_eq_true c23
          clear c23
          by_cases c24 : ((rd_T74 t140 x7_1).f0).toList = ((rd_T74 t140 (ji21)).f0).toList
          ·
           rw [if_pos c24] at H
           have c24b0 : (((rd_T74 t140 x7_1).f0).toList == ((rd_T74 t140 (ji21)).f0).toList) = true := beq_iff_eq.mpr c24
           have c24b1 : (((rd_T74 t140 x7_1).f0).toList != ((rd_T74 t140 (ji21)).f0).toList) = false := bne_eq_false_iff_eq.mpr c24
           clear c24
           have H' := zK H
           clear H
           obtain ⟨Ao25, co25, eo25⟩ := Kd.R_slice HO_5.out
           subst eo25
           have p150 : 0 ≤ (x7_1 : Int) := zX (by first | (with_reducible assumption) | assumption)
           have q150 : x7_1 < (t140.length : Int) := zX (by first | (with_reducible assumption) | assumption)
           obtain ⟨ad150, e150, hx150_0, hx150_1, hx150_2⟩ := at_T74 (Kd.R_reads' HO_5.out).2.2 x7_1 p150 q150
           cases e150
           replace p150 := eq_true p150
           replace q150 := eq_true q150
           have p151 : 0 ≤ ((ji21) : Int) := zX (by first | (with_reducible assumption) | assumption)
           have q151 : (ji21) < (t140.length : Int) := zX (by first | (with_reducible assumption) | assumption)
           obtain ⟨ad151, e151, hx151_0, hx151_1, hx151_2⟩ := at_T74 (Kd.R_reads' HO_5.out).2.2 (ji21) p151 q151
           obtain rfl : ad150 = ad151 := (by injection e151)
           replace p151 := eq_true p151
           replace q151 := eq_true q151
           go_wp2
           repeat (go_quiet (fail); try go_wp2)
           go_roundg k1
           case measure => have := HK1.out; omega
           case rel => exact ⟨(x6_1), (wrap64 (x7_1 + 1)), (by first | rfl | (simp; done) | (simp [*]; done)), H', ⟨by have := HK1.out; omega⟩, ⟨by (with_reducible repeat (first | apply zR | apply zV | apply zW)); exact HO_5.out⟩, ⟨by (with_reducible repeat (first | apply zR | apply zV | apply zW)); exact HO_6.out⟩, ⟨by repeat (first | (with_reducible first | exact HB.out | apply zA | apply zN | apply zD) | exact HB.out)⟩⟩
          ·
           rw [if_neg c24] at H
           have c24b0 : (((rd_T74 t140 x7_1).f0).toList == ((rd_T74 t140 (ji21)).f0).toList) = false := beq_eq_false_iff_ne.mpr c24
           have c24b1 : (((rd_T74 t140 x7_1).f0).toList != ((rd_T74 t140 (ji21)).f0).toList) = true := bne_iff_ne.mpr c24
           by_cases c26 : x6_1.length < 8796093022208
           ·
            rw [if_pos c26] at H
            have LMc26 := zK c26
            clear c26
            obtain ⟨y153, hy153⟩ : ∃ y_ : List ByteArray, y_ = (x6_1 ++ [(rd_T74 t140 x7_1).f0]) := ⟨_, rfl⟩
            replace H : (spec_l7Paths.l0 k1 t140 y153 (wrap64 (x7_1 + 1))) = some r := by first | (rw [hy153]; with_reducible exact H) | (have H2_ := (Option.bind_some _ _).symm.trans H; rw [hy153]; with_reducible exact H2_) | (have H2_ := (Option.bind_some _ _).symm.trans H; with_reducible exact H2_) | with_reducible exact H | (rw [hy153]; exact H) | exact H
            have Ny153 := zK hy153
            clear hy153
            have H' := zK H
            clear H
            obtain ⟨Ao27, co27, eo27⟩ := Kd.R_slice HO_5.out
            subst eo27
            have p150 : 0 ≤ (x7_1 : Int) := zX (by first | (with_reducible assumption) | assumption)
            have q150 : x7_1 < (t140.length : Int) := zX (by first | (with_reducible assumption) | assumption)
            obtain ⟨ad150, e150, hx150_0, hx150_1, hx150_2⟩ := at_T74 (Kd.R_reads' HO_5.out).2.2 x7_1 p150 q150
            cases e150
            replace p150 := eq_true p150
            replace q150 := eq_true q150
            have p151 : 0 ≤ ((ji21) : Int) := zX (by first | (with_reducible assumption) | assumption)
            have q151 : (ji21) < (t140.length : Int) := zX (by first | (with_reducible assumption) | assumption)
            obtain ⟨ad151, e151, hx151_0, hx151_1, hx151_2⟩ := at_T74 (Kd.R_reads' HO_5.out).2.2 (ji21) p151 q151
            obtain rfl : ad150 = ad151 := (by injection e151)
            replace p151 := eq_true p151
            replace q151 := eq_true q151
            have p152 : 0 ≤ (x7_1 : Int) := zX (by first | (with_reducible assumption) | assumption)
            have q152 : x7_1 < (t140.length : Int) := zX (by first | (with_reducible assumption) | assumption)
            obtain ⟨ad152, e152, hx152_0, hx152_1, hx152_2⟩ := at_T74 (Kd.R_reads' HO_5.out).2.2 x7_1 p152 q152
            obtain rfl : ad150 = ad152 := (by injection e152)
            replace p152 := eq_true p152
            replace q152 := eq_true q152
            go_wp2_with (first | ((with_reducible refine gate_builtin (b := .append) (xs := #[.tmp 37, .tmp 43]) rfl ?_); at_builtin; refine Kd.R_append Kd.string (w0 := w) w.heap.size rfl (.tmp 37) (.tmp 43) 35 9 (.string ⟨#[]⟩) 16 rfl Tryz.underlying35 info9 rfl (by decide) (by omega) u6 x6_1 ((rd_T74 t140 x7_1).f0) [.string ((rd_T74 t140 x7_1).f0)] (fun _ => True) (fun _ => False) rfl rfl ?aP (fun _ hk => hk.elim) ?aF ?aO ?aB ?aS ?aL ?_; (case aP => exact rfl); (case aB => exact (by repeat (first | (with_reducible first | exact HB.out | apply zA | apply zN | apply zD) | exact HB.out))); (case aF => exact (fun _ _ => trivial)); (case aO => exact (by (with_reducible repeat (first | apply zR | apply zV | apply zW)); exact HO_6.out)); (case aS => exact (below_size (by repeat (first | (with_reducible first | exact HB.out | apply zA | apply zN | apply zD) | exact HB.out)))); (case aL => have := LMc26.out; omega); intro v154 w28 ho hb hg hat; rw [← Ny153.out] at ho; have n0_ := zK (Kd.R_over' (by (with_reducible repeat (first | apply zR | apply zV | apply zW)); exact HO_5.out) (Kd.R_typed (by (with_reducible repeat (first | apply zR | apply zV | apply zW)); exact HO_6.out)) (by decide) hg); have n1_ := zK (hb); have n2_ := zK (ho); clear HO_5; clear HB; clear HO_6; have HO_5 := n0_; have HB := n1_; have HO155 := n2_; clear n0_ n1_ n2_; clear ho hb hg hat))
            repeat (go_quiet (first | ((with_reducible refine gate_builtin (b := .append) (xs := #[.tmp 37, .tmp 43]) rfl ?_); at_builtin; refine Kd.R_append Kd.string (w0 := w) w.heap.size rfl (.tmp 37) (.tmp 43) 35 9 (.string ⟨#[]⟩) 16 rfl Tryz.underlying35 info9 rfl (by decide) (by omega) u6 x6_1 ((rd_T74 t140 x7_1).f0) [.string ((rd_T74 t140 x7_1).f0)] (fun _ => True) (fun _ => False) rfl rfl ?aP (fun _ hk => hk.elim) ?aF ?aO ?aB ?aS ?aL ?_; (case aP => exact rfl); (case aB => exact (by repeat (first | (with_reducible first | exact HB.out | apply zA | apply zN | apply zD) | exact HB.out))); (case aF => exact (fun _ _ => trivial)); (case aO => exact (by (with_reducible repeat (first | apply zR | apply zV | apply zW)); exact HO_6.out)); (case aS => exact (below_size (by repeat (first | (with_reducible first | exact HB.out | apply zA | apply zN | apply zD) | exact HB.out)))); (case aL => have := LMc26.out; omega); intro v154 w28 ho hb hg hat; rw [← Ny153.out] at ho; have n0_ := zK (Kd.R_over' (by (with_reducible repeat (first | apply zR | apply zV | apply zW)); exact HO_5.out) (Kd.R_typed (by (with_reducible repeat (first | apply zR | apply zV | apply zW)); exact HO_6.out)) (by decide) hg); have n1_ := zK (hb); have n2_ := zK (ho); clear HO_5; clear HB; clear HO_6; have HO_5 := n0_; have HB := n1_; have HO155 := n2_; clear n0_ n1_ n2_; clear ho hb hg hat)); try go_wp2_with (first | ((with_reducible refine gate_builtin (b := .append) (xs := #[.tmp 37, .tmp 43]) rfl ?_); at_builtin; refine Kd.R_append Kd.string (w0 := w) w.heap.size rfl (.tmp 37) (.tmp 43) 35 9 (.string ⟨#[]⟩) 16 rfl Tryz.underlying35 info9 rfl (by decide) (by omega) u6 x6_1 ((rd_T74 t140 x7_1).f0) [.string ((rd_T74 t140 x7_1).f0)] (fun _ => True) (fun _ => False) rfl rfl ?aP (fun _ hk => hk.elim) ?aF ?aO ?aB ?aS ?aL ?_; (case aP => exact rfl); (case aB => exact (by repeat (first | (with_reducible first | exact HB.out | apply zA | apply zN | apply zD) | exact HB.out))); (case aF => exact (fun _ _ => trivial)); (case aO => exact (by (with_reducible repeat (first | apply zR | apply zV | apply zW)); exact HO_6.out)); (case aS => exact (below_size (by repeat (first | (with_reducible first | exact HB.out | apply zA | apply zN | apply zD) | exact HB.out)))); (case aL => have := LMc26.out; omega); intro v154 w28 ho hb hg hat; rw [← Ny153.out] at ho; have n0_ := zK (Kd.R_over' (by (with_reducible repeat (first | apply zR | apply zV | apply zW)); exact HO_5.out) (Kd.R_typed (by (with_reducible repeat (first | apply zR | apply zV | apply zW)); exact HO_6.out)) (by decide) hg); have n1_ := zK (hb); have n2_ := zK (ho); clear HO_5; clear HB; clear HO_6; have HO_5 := n0_; have HB := n1_; have HO155 := n2_; clear n0_ n1_ n2_; clear ho hb hg hat)))
            go_roundg k1
            case measure => have := HK1.out; omega
            case rel => exact ⟨(y153), (wrap64 (x7_1 + 1)), (by first | rfl | (simp; done) | (simp [*]; done)), H', ⟨by have := HK1.out; omega⟩, ⟨by (with_reducible repeat (first | apply zR | apply zV | apply zW)); exact HO_5.out⟩, ⟨by (with_reducible repeat (first | apply zR | apply zV | apply zW)); exact HO155.out⟩, ⟨by repeat (first | (with_reducible first | exact HB.out | apply zA | apply zN | apply zD) | exact HB.out)⟩⟩
           ·
            rw [if_neg c26] at H
            exact absurd H (by simp)
         ·
          rw [if_neg c23] at H
          exact absurd H (by simp)
        ·
         rw [if_neg c22] at H
         exact absurd H (by simp)
       ·
        rw [if_neg c20] at H
        exact absurd H (by simp)
     ·
      rw [if_neg c14] at H
      have c14b0 : decide (x7_1 < (t140.length : Int)) = false := decide_eq_false c14
      clear c14
      obtain rfl := Option.some.inj H
      obtain ⟨Ao29, co29, eo29⟩ := Kd.R_slice HO_5.out
      subst eo29
      go_wp2
      repeat (go_quiet (fail); try go_wp2)
      go_ret
      exact ⟨_, by first | rfl | (simp [errW_none, errW_some] <;> rfl) | (simp [*, errW_none, errW_some] <;> rfl), by (with_reducible repeat (first | apply zR | apply zV | apply zW)); exact HO_6.out, by repeat (first | (with_reducible first | exact HB.out | apply zA | apply zN | apply zD) | exact HB.out)⟩
  ·
   rw [if_neg c4] at H
   exact absurd H (by simp)
 ·
  rw [if_neg c3] at H
  exact absurd H (by simp)


attribute [local go_sem high] eqA74
/-! ### spec_DiffFiles: function 10 -/
def spec_DiffFiles.l0 : Nat → List (S74) → List (S74) → List ByteArray → Int → Int → List (S77) → Option (Int × (List (S77)))
 | 0, _, _, _, _, _, _ => none
 | k + 1, x0, x1, x7, x8, x162000, x162001 => if x8 < (x7.length : Int) then (if 0 ≤ x8 then ((spec_l7Find.f k x0 (rdOf ByteArray.empty x7 x8)).bind fun bt167 => ((spec_l7Find.f k x1 (rdOf ByteArray.empty x7 x8)).bind fun bt171 => (if (!(bt167.1.toList == bt171.1.toList) || (!(bt167.2.1 == bt171.2.1) || (!(bt167.2.2.toList == bt171.2.2.toList)))) = true then (if x162001.length < 1466015503701 then (spec_DiffFiles.l0 k x0 x1 x7 (wrap64 (x8 + 1)) x162000 (x162001 ++ [(⟨rdOf ByteArray.empty x7 x8, (⟨bt167.1, bt167.2.1, bt167.2.2⟩ : S74), (⟨bt171.1, bt171.2.1, bt171.2.2⟩ : S74)⟩ : S77)])) else (none)) else (spec_DiffFiles.l0 k x0 x1 x7 (wrap64 (x8 + 1)) x162000 x162001)))) else (none)) else (some (x162000, x162001))
def spec_DiffFiles.f (k : Nat) (l0 : List (S74)) (l1 : List (S74)) : Option (Int × (List (S77))) := (spec_l7Both.f k l0 l1).bind fun t160 => (if t160 = 0 then ((spec_l7Paths.f k l0 l1).bind fun t162 => (spec_DiffFiles.l0 k l0 l1 t162 0 0 ([] : List (S77)))) else (some (t160, ([] : List (S77)))))
theorem spec_DiffFiles.mono_l : ∀ k, (∀ y0 y1 y2 y3 y4 y5, LeO (spec_DiffFiles.l0 k y0 y1 y2 y3 y4 y5) (spec_DiffFiles.l0 (k + 1) y0 y1 y2 y3 y4 y5))
 | 0 => fun _ _ _ _ _ _ r h => by simp [spec_DiffFiles.l0] at h
 | k + 1 => by
  have ih0 := spec_DiffFiles.mono_l k
  ·
   intro y0 y1 y2 y3 y4 y5
   unfold spec_DiffFiles.l0
   repeat' first
   | (with_reducible exact ih0 _ _ _ _ _ _)
   | (with_reducible exact spec_l7Both.mono _ _ _)
   | (with_reducible exact spec_l7Find.mono _ _ _)
   | (with_reducible exact spec_l7Paths.mono _ _ _)
   | (with_reducible exact LeO.refl _)
   | (with_reducible exact LeO.none _)
   | (with_reducible refine LeO.ite ?_ ?_)
   | (with_reducible refine LeO.bind ?_ (fun _ => ?_))
   | exact ih0 _ _ _ _ _ _
   | exact spec_l7Both.mono _ _ _
   | exact spec_l7Find.mono _ _ _
   | exact spec_l7Paths.mono _ _ _
   | exact LeO.none _
   | refine LeO.ite ?_ ?_
   | refine LeO.bind ?_ (fun _ => ?_)
theorem spec_DiffFiles.mono : ∀ a0 a1 k, LeO (spec_DiffFiles.f k a0 a1) (spec_DiffFiles.f (k + 1) a0 a1) := by
 intro a0 a1 k
 have ih0 := spec_DiffFiles.mono_l k
 unfold spec_DiffFiles.f
 repeat' first
   | (with_reducible exact ih0 _ _ _ _ _ _)
   | (with_reducible exact spec_l7Both.mono _ _ _)
   | (with_reducible exact spec_l7Find.mono _ _ _)
   | (with_reducible exact spec_l7Paths.mono _ _ _)
   | (with_reducible exact LeO.refl _)
   | (with_reducible exact LeO.none _)
   | (with_reducible refine LeO.ite ?_ ?_)
   | (with_reducible refine LeO.bind ?_ (fun _ => ?_))
   | exact ih0 _ _ _ _ _ _
   | exact spec_l7Both.mono _ _ _
   | exact spec_l7Find.mono _ _ _
   | exact spec_l7Paths.mono _ _ _
   | exact LeO.none _
   | refine LeO.ite ?_ ?_
   | refine LeO.bind ?_ (fun _ => ?_)
def spec_DiffFiles.T9 : Bool × List (List Nat × List Nat) := (true, [([], []), ([], []), ([0, 1], [0, 1]), ([2], [2]), ([], []), ([], []), ([], []), ([5, 6], [5, 6]), ([7], [7]), ([4, 8], [4, 8]), ([], []), ([], []), ([], []), ([11, 12], [11, 12]), ([13], [13]), ([10, 14, 9], [10, 14]), ([3, 9, 15], [3, 9, 15]), ([], []), ([17, 16, 15, 0, 1, 2, 3, 4, 5, 6, 7, 8, 9, 10, 11, 12, 13, 14, 15, 16, 17], [16, 17])])
def spec_DiffFiles.B9 : List Nat := [0, 0, 3, 7, 0, 0, 0, 96, 224, 496, 0, 0, 0, 6144, 14336, 32752, 65535, 0, 262143]
theorem spec_DiffFiles.tab9 : rtab .any (opsOf Tryz.f10 9) = spec_DiffFiles.T9 := by kernel_rfl
theorem spec_DiffFiles.bits9 : waitsOk spec_DiffFiles.T9.2 spec_DiffFiles.B9 = true := by kernel_rfl
set_option maxHeartbeats 8000000 in
set_option maxRecDepth 100000 in
theorem spec_DiffFiles.calls (k : Nat) (A0 : Option Addr) (c0 : Nat) (l0 : List (S74)) (A1 : Option Addr) (c1 : Nat) (l1 : List (S74)) (r1 : Int) (r2 : List (S77)) (w : World) (hr0 : Kd.C k74 w A0 l0.length l0) (hc0 : l0.length ≤ c0) (hr1 : Kd.C k74 w A1 l1.length l1) (hc1 : l1.length ≤ c1) (h : spec_DiffFiles.f k l0 l1 = some (r1, r2)) :
  Calls Tryz.prog 10 #[.slice A0 l0.length c0, .slice A1 l1.length c1] w fun e w' => ∃ v1_ : Value, e = .returned (.agg #[.int .i64 r1, v1_]) ∧ Kd.R k77 77 w' w.heap.size (fun _ => True) v1_ r2 ∧ Below w.heap.size w w' := by
 have hu26 := Tryz.underlying26
 have hu77 := Tryz.underlying77
 have hu74 := Tryz.underlying74
 have HR0 := zK hr0
 have HC0 := zK hc0
 clear hr0 hc0
 have HR1 := zK hr1
 have HC1 := zK hc1
 clear hr1 hc1
 have HB := zK (Below.refl w.heap.size w)
 have H : ((spec_l7Both.f k l0 l1).bind fun t160 => (if t160 = 0 then ((spec_l7Paths.f k l0 l1).bind fun t162 => (spec_DiffFiles.l0 k l0 l1 t162 0 0 ([] : List (S77)))) else (some (t160, ([] : List (S77)))))) = some (r1, r2) := h
 clear h
 replace H := Option.bind_eq_some_iff.mp H
 obtain ⟨t160, A30, H⟩ := H
 replace H : (if t160 = 0 then ((spec_l7Paths.f k l0 l1).bind fun t162 => (spec_DiffFiles.l0 k l0 l1 t162 0 0 ([] : List (S77)))) else (some (t160, ([] : List (S77))))) = some (r1, r2) := H
 have A3 := zK A30
 clear A30
 by_cases c4 : t160 = 0
 ·
  rw [if_pos c4] at H
  have c4b0 : (t160 == 0) = true := beq_iff_eq.mpr c4
  have c4b1 : (t160 != 0) = false := bne_eq_false_iff_eq.mpr c4
  clear c4
  replace H := Option.bind_eq_some_iff.mp H
  obtain ⟨t162, A50, H⟩ := H
  replace H : (spec_DiffFiles.l0 k l0 l1 t162 0 0 ([] : List (S77))) = some (r1, r2) := H
  have A5 := zK A50
  clear A50
  have H' := zK H
  clear H
  go_enter Tryz.func10, Tryz.ntmps10
  go_wp2_with (first | ((with_reducible refine gate_dst (N := 4) rfl ?_); refine box_event ?hg (N := 4) ?hd (cs := #[.int .i64 0, .slice none 0 0]) (t := 26) ?hr ?_; (case hd => rfl); (case hg => rfl); (case hr => first | (go_simp; done) | (go_simp; rfl)); intro gb159 hg w6 hbox hb; have n0_ := zK (below_step (by repeat (first | (with_reducible first | exact HB.out | apply zA | apply zN | apply zD) | exact HB.out)) hb); have n1_ := zK (hbox); have n2_ := zK ((by rw [hg]; exact (below_size (by repeat (first | (with_reducible first | exact HB.out | apply zA | apply zN | apply zD) | exact HB.out))) : w.heap.size ≤ gb159)); have n3_ := zK ((by rw [hg]; exact (below_size (by repeat (first | (with_reducible first | exact HB.out | apply zA | apply zN | apply zD) | exact HB.out))) : w.heap.size ≤ gb159)); clear HB; have HB := n0_; have BK159 := n1_; have GW159 := n2_; have GE159 := n3_; clear n0_ n1_ n2_ n3_; clear hb hbox hg) | ((with_reducible refine gate_callee (f := 45) rfl ?_); refine goesL_ (some 12) rfl rfl Tryz.func45 (by kernel_rfl) rfl #[.slice A0 l0.length c0, .slice A1 l1.length c1] rfl (by (try simp only [List.map_toArray, List.map_cons, List.map_nil]); first | done | rfl | (simp only [List.length_drop, List.length_take]; rfl)) ?_; (with_reducible refine (spec_l7Both.calls k _ _ l0 _ _ l1 t160 _ ?side1 ?side2 ?side3 ?side4 A3.out).mono ?_); (case side1 => repeat (first | exact (Kd.C_below HR0.out HB.out) | (with_reducible refine Kd.C_alloc ?_ _) | (with_reducible refine Kd.C_drewN ?_ _) | (with_reducible refine Kd.C_drew ?_))); (case side2 => exact HC0.out); (case side3 => repeat (first | exact (Kd.C_below HR1.out HB.out) | (with_reducible refine Kd.C_alloc ?_ _) | (with_reducible refine Kd.C_drewN ?_ _) | (with_reducible refine Kd.C_drew ?_))); (case side4 => exact HC1.out); rintro e w7 ⟨rfl, hb⟩; refine ⟨_, rfl, ?_⟩; have n0_ := zK (blk_below (g := gb159) (o := .cells #[.int .i64 0, .slice none 0 0] 26 (0, 0)) (by (with_reducible repeat (first | refine zM ?_ _ | refine zP ?_ | refine zQ ?_ _)); exact BK159.out) hb); have n1_ := zK (below_step (by repeat (first | (with_reducible first | exact HB.out | apply zA | apply zN | apply zD | refine below_set ?_ GE159.out) | exact HB.out)) hb); clear BK159; clear HB; have BK159 := n0_; have HB := n1_; clear n0_ n1_; (try clear hb); (try clear hb2); (try clear hk); (try clear hi)) | ((with_reducible refine gate_dst (N := 6) rfl ?_); refine box_event ?hg (N := 6) ?hd (cs := #[.int .i64 0, .slice none 0 0]) (t := 26) ?hr ?_; (case hd => rfl); (case hg => rfl); (case hr => first | (go_simp; done) | (go_simp; rfl)); intro gb161 hg w8 hbox hb; have n0_ := zK (blk_below (g := gb159) (o := .cells #[.int .i64 0, .slice none 0 0] 26 (0, 0)) (by (with_reducible repeat (first | refine zM ?_ _ | refine zP ?_ | refine zQ ?_ _)); exact BK159.out) hb); have n1_ := zK (below_step (by repeat (first | (with_reducible first | exact HB.out | apply zA | apply zN | apply zD | refine below_set ?_ GE159.out) | exact HB.out)) hb); have n2_ := zK (hbox); have n3_ := zK ((by rw [hg]; exact (below_size (by repeat (first | (with_reducible first | exact HB.out | apply zA | apply zN | apply zD | refine below_set ?_ GE159.out) | exact HB.out))) : w.heap.size ≤ gb161)); have n4_ := zK ((by rw [hg]; exact (below_size (by repeat (first | (with_reducible first | exact HB.out | apply zA | apply zN | apply zD | refine below_set ?_ GE159.out) | exact HB.out))) : w.heap.size ≤ gb161)); have n5_ := zK ((by rw [hg]; exact Nat.ne_of_lt (blk_lt (g := gb159) (o := .cells #[.int .i64 0, .slice none 0 0] 26 (0, 0)) (by (with_reducible repeat (first | refine zM ?_ _ | refine zP ?_ | refine zQ ?_ _)); exact BK159.out)) : gb159 ≠ gb161)); have n6_ := zK ((by rw [hg]; exact Nat.ne_of_gt (blk_lt (g := gb159) (o := .cells #[.int .i64 0, .slice none 0 0] 26 (0, 0)) (by (with_reducible repeat (first | refine zM ?_ _ | refine zP ?_ | refine zQ ?_ _)); exact BK159.out)) : gb161 ≠ gb159)); clear BK159; clear HB; have BK159 := n0_; have HB := n1_; have BK161 := n2_; have GW161 := n3_; have GE161 := n4_; have NB159_161 := n5_; have NB161_159 := n6_; clear n0_ n1_ n2_ n3_ n4_ n5_ n6_; clear hb hbox hg; have hnb9 := NB161_159.out; have hnc9 := NB159_161.out; have hcz10_0 : w8.cell? ⟨gb161, 0, none⟩ = some (.int .i64 0) := (blk_cell BK161.out 0).trans rfl; have hcz10_1 : w8.cell? ⟨gb161, 1, none⟩ = some (.slice none 0 0) := (blk_cell BK161.out 1).trans rfl; have hfz10_0 := blk_frozen BK161.out 0; have hfz10_1 := blk_frozen BK161.out 1) | ((with_reducible refine gate_callee (f := 46) rfl ?_); refine goesL_ (some 20) rfl rfl Tryz.func46 (by kernel_rfl) rfl #[.slice A0 l0.length c0, .slice A1 l1.length c1] rfl (by (try simp only [List.map_toArray, List.map_cons, List.map_nil]); first | done | rfl | (simp only [List.length_drop, List.length_take]; rfl)) ?_; (with_reducible refine (spec_l7Paths.calls k _ _ l0 _ _ l1 t162 _ ?side1 ?side2 ?side3 ?side4 A5.out).mono ?_); (case side1 => exact Kd.C_below HR0.out (by repeat (first | (with_reducible first | exact HB.out | apply zA | apply zN | apply zD | refine below_set ?_ GE159.out | refine below_set ?_ GE161.out) | exact HB.out))); (case side2 => exact HC0.out); (case side3 => exact Kd.C_below HR1.out (by repeat (first | (with_reducible first | exact HB.out | apply zA | apply zN | apply zD | refine below_set ?_ GE159.out | refine below_set ?_ GE161.out) | exact HB.out))); (case side4 => exact HC1.out); rintro e w11 ⟨v163, rfl, ho0, hb⟩; refine ⟨_, rfl, ?_⟩; have n0_ := zK (Kd.R_lower ho0 (below_size (by repeat (first | (with_reducible first | exact HB.out | apply zA | apply zN | apply zD | refine below_set ?_ GE159.out | refine below_set ?_ GE161.out) | exact HB.out)))); have n1_ := zK (blk_below (g := gb159) (o := .cells #[.int .i64 0, .slice none 0 0] 26 (0, 0)) (by (with_reducible repeat (first | refine zM ?_ _ | refine zP ?_ | refine zQ ?_ _)); refine blk_far ?_ NB159_161.out _; (with_reducible repeat (first | refine zM ?_ _ | refine zP ?_ | refine zQ ?_ _)); refine blk_far ?_ NB159_161.out _; (with_reducible repeat (first | refine zM ?_ _ | refine zP ?_ | refine zQ ?_ _)); exact BK159.out) hb); have n2_ := zK (blk_below (g := gb161) (o := .cells #[.int .i64 0, .slice none 0 0] 26 (0, 0)) (by (with_reducible repeat (first | refine zM ?_ _ | refine zP ?_ | refine zQ ?_ _)); refine blk_put (cs := #[.int .i64 0, .slice none 0 0]) ?_ 1 _ rfl; (with_reducible repeat (first | refine zM ?_ _ | refine zP ?_ | refine zQ ?_ _)); refine blk_put (cs := #[.int .i64 0, .slice none 0 0]) ?_ 0 _ rfl; (with_reducible repeat (first | refine zM ?_ _ | refine zP ?_ | refine zQ ?_ _)); exact BK161.out) hb); have n3_ := zK (below_step (by repeat (first | (with_reducible first | exact HB.out | apply zA | apply zN | apply zD | refine below_set ?_ GE159.out | refine below_set ?_ GE161.out) | exact HB.out)) hb); clear BK159; clear BK161; clear HB; have HO164 := n0_; have BK159 := n1_; have BK161 := n2_; have HB := n3_; clear n0_ n1_ n2_ n3_; (try clear hb); (try clear hb2); (try clear hk); (try clear hi); (try clear ho0)))
  go_loopg [8] k (fun kq v8 w' => ∃ (x8_1 : Int) (x162001_1 : List (S77)) (u162001 : Value), v8 = .int .i64 x8_1 ∧ Aside0 (spec_DiffFiles.l0 kq l0 l1 t162 x8_1 0 x162001_1 = some (r1, r2)) ∧ Aside0 (kq ≤ k) ∧ Aside0 (Kd.R Kd.string 9 w' w.heap.size (fun _ => True) v163 t162) ∧ Aside0 (Kd.R k77 77 w' w.heap.size (fun _ => True) u162001 x162001_1) ∧ Aside0 (w'.heap[gb159]? = some (.cells #[.int .i64 0, (.slice none 0 0)] 26 (0, 0))) ∧ Aside0 (w'.heap[gb161]? = some (.cells #[.int .i64 0, u162001] 26 (0, 0))) ∧ Aside0 (Below w.heap.size w w'))
  case atStart => exact ⟨(0), (([] : List (S77))), (.slice none 0 0), (by first | rfl | (simp; done) | (simp [*]; done)), H', ⟨Nat.le_refl _⟩, ⟨by (with_reducible repeat (first | apply zR | apply zV | apply zW)); exact HO164.out⟩, ⟨by first | exact Kd.R_nil _ _ _ _ _ | exact Kd.N_nil _ _ _ _ _ | exact Kd.V_nil _ _ _ _ _ | exact Kd.Q_nil _ _ _ _ _ | exact Kd.S_nil _ _ _ _ _⟩, ⟨by (with_reducible repeat (first | refine zM ?_ _ | refine zP ?_ | refine zQ ?_ _)); exact BK159.out⟩, ⟨by (with_reducible repeat (first | refine zM ?_ _ | refine zP ?_ | refine zQ ?_ _)); exact BK161.out⟩, ⟨by repeat (first | (with_reducible first | exact HB.out | apply zA | apply zN | apply zD | refine below_set ?_ GE159.out | refine below_set ?_ GE161.out) | exact HB.out)⟩⟩
  case round =>
   clear H'
   try clear c1
   try clear p2
   try clear c4
   try clear c4b0
   try clear c4b1
   try clear c9
   try clear c10
   try clear hcz10_0
   try clear hcz10_1
   try clear hfz10_0
   try clear hfz10_1
   obtain ⟨x8_1, x162001_1, u162001, rfl, HA, HK1, HO_7, HO_162001, BK159, BK161, HB⟩ := hrel
   cases gk with
   | zero => exact absurd HA.out (by simp [spec_DiffFiles.l0])
   | succ k1 =>
    have H := HA.out
    clear HA
    simp only [spec_DiffFiles.l0] at H
    by_cases c12 : x8_1 < (t162.length : Int)
    ·
     rw [if_pos c12] at H
     have c12b0 : decide (x8_1 < (t162.length : Int)) = true := decide_eq_true c12
     clear c12
     by_cases c13 : 0 ≤ x8_1
     ·
      rw [if_pos c13] at H
      have c13b0 : decide (0 ≤ x8_1) = true := decide_eq_true c13
      clear c13
      replace H := Option.bind_eq_some_iff.mp H
      obtain ⟨⟨t167, t168, t169⟩, A140, H⟩ := H
      replace H : ((spec_l7Find.f k1 l1 (rdOf ByteArray.empty t162 x8_1)).bind fun bt171 => (if (!(t167.toList == bt171.1.toList) || (!(t168 == bt171.2.1) || (!(t169.toList == bt171.2.2.toList)))) = true then (if x162001_1.length < 1466015503701 then (spec_DiffFiles.l0 k1 l0 l1 t162 (wrap64 (x8_1 + 1)) 0 (x162001_1 ++ [(⟨rdOf ByteArray.empty t162 x8_1, (⟨t167, t168, t169⟩ : S74), (⟨bt171.1, bt171.2.1, bt171.2.2⟩ : S74)⟩ : S77)])) else (none)) else (spec_DiffFiles.l0 k1 l0 l1 t162 (wrap64 (x8_1 + 1)) 0 x162001_1))) = some (r1, r2) := H
      have A14 := zK A140
      clear A140
      replace H := Option.bind_eq_some_iff.mp H
      obtain ⟨⟨t171, t172, t173⟩, A150, H⟩ := H
      replace H : (if (!(t167.toList == t171.toList) || (!(t168 == t172) || (!(t169.toList == t173.toList)))) = true then (if x162001_1.length < 1466015503701 then (spec_DiffFiles.l0 k1 l0 l1 t162 (wrap64 (x8_1 + 1)) 0 (x162001_1 ++ [(⟨rdOf ByteArray.empty t162 x8_1, (⟨t167, t168, t169⟩ : S74), (⟨t171, t172, t173⟩ : S74)⟩ : S77)])) else (none)) else (spec_DiffFiles.l0 k1 l0 l1 t162 (wrap64 (x8_1 + 1)) 0 x162001_1)) = some (r1, r2) := H
      have A15 := zK A150
      clear A150
      by_cases c16 : (!(t167.toList == t171.toList) || (!(t168 == t172) || (!(t169.toList == t173.toList)))) = true
      ·
       rw [if_pos c16] at H
       have c16b0 : (!(t167.toList == t171.toList) || (!(t168 == t172) || (!(t169.toList == t173.toList)))) = true := c16
       clear c16
       by_cases c17 : x162001_1.length < 1466015503701
       ·
        rw [if_pos c17] at H
        have LMc17 := zK c17
        clear c17
        obtain ⟨y175, hy175⟩ : ∃ y_ : List (S77), y_ = (x162001_1 ++ [(⟨rdOf ByteArray.empty t162 x8_1, (⟨t167, t168, t169⟩ : S74), (⟨t171, t172, t173⟩ : S74)⟩ : S77)]) := ⟨_, rfl⟩
        replace H : (spec_DiffFiles.l0 k1 l0 l1 t162 (wrap64 (x8_1 + 1)) 0 y175) = some (r1, r2) := by first | (rw [hy175]; with_reducible exact H) | (have H2_ := (Option.bind_some _ _).symm.trans H; rw [hy175]; with_reducible exact H2_) | (have H2_ := (Option.bind_some _ _).symm.trans H; with_reducible exact H2_) | with_reducible exact H | (rw [hy175]; exact H) | exact H
        have Ny175 := zK hy175
        clear hy175
        have H' := zK H
        clear H
        obtain ⟨Ao18, co18, eo18⟩ := Kd.R_slice HO_7.out
        subst eo18
        try go_wp2
        have n0_ := zK (zW HO_7.out)
        have n1_ := zK (zW HO_162001.out)
        have n2_ := zK (zP BK159.out)
        have n3_ := zK (zP BK161.out)
        have n4_ := zK (zD HB.out)
        clear HO_7
        clear HO_162001
        clear BK159
        clear BK161
        clear HB
        have HO_7 := n0_
        have HO_162001 := n1_
        have BK159 := n2_
        have BK161 := n3_
        have HB := n4_
        clear n0_ n1_ n2_ n3_ n4_
        have p165 : 0 ≤ (x8_1 : Int) := zX (by first | (with_reducible assumption) | assumption)
        have q165 : x8_1 < (t162.length : Int) := zX (by first | (with_reducible assumption) | assumption)
        obtain ⟨ad165, e165, hx165_0⟩ := Kd.at_string (Kd.R_reads' HO_7.out).2.2 x8_1 p165 q165
        cases e165
        replace p165 := eq_true p165
        replace q165 := eq_true q165
        have p166 : 0 ≤ (x8_1 : Int) := zX (by first | (with_reducible assumption) | assumption)
        have q166 : x8_1 < (t162.length : Int) := zX (by first | (with_reducible assumption) | assumption)
        obtain ⟨ad166, e166, hx166_0⟩ := Kd.at_string (Kd.R_reads' HO_7.out).2.2 x8_1 p166 q166
        obtain rfl : ad165 = ad166 := (by injection e166)
        replace p166 := eq_true p166
        replace q166 := eq_true q166
        have p170 : 0 ≤ (x8_1 : Int) := zX (by first | (with_reducible assumption) | assumption)
        have q170 : x8_1 < (t162.length : Int) := zX (by first | (with_reducible assumption) | assumption)
        obtain ⟨ad170, e170, hx170_0⟩ := Kd.at_string (Kd.R_reads' HO_7.out).2.2 x8_1 p170 q170
        obtain rfl : ad165 = ad170 := (by injection e170)
        replace p170 := eq_true p170
        replace q170 := eq_true q170
        refine start_ (n := 19) (S := fun w' => w'.cell? (ad165.add (x8_1).toNat) = some (.string (rdOf ByteArray.empty t162 x8_1)) ∧ w'.cell? (ad165.add (x8_1).toNat) = some (.string (rdOf ByteArray.empty t162 x8_1)) ∧ w'.cell? (ad165.add (x8_1).toNat) = some (.string (rdOf ByteArray.empty t162 x8_1))) (ds := []) #[zF,zF,zF,zF,zF,zF,zF,zF,zF,zF,zF,zF,zF,zF,zF,zF,zF,zF,zF] (by kernel_rfl) rfl rfl ⟨hx165_0, hx166_0, hx170_0⟩ (fun hHeld => ?_); refine with_tabW spec_DiffFiles.tab9 spec_DiffFiles.bits9 (fun HT_ HW_ => ?_)
        generalize wr.drew = w19 at HO_7 HO_162001 BK159 BK161 HB hx165_0 hx166_0 hx170_0 hHeld ⊢
        refine pure_ (i := 0) (N := some 27) (v := ?_) (a' := ?_) #[zB,zF,zF,zF,zF,zF,zF,zF,zF,zF,zF,zF,zF,zF,zF,zF,zF,zF,zF] rfl rfl (any_of HT_.out (by kernel_rfl)) (fun _ _ _ h => h) (Or.inl ⟨by rfl, ?_⟩) ?_ ?_
        rotate_left
        ·
         intro w'
         go_simp
         with_reducible rfl
        rotate_left
        ·
         simp only [Act.put, zS, zT, zU, i64_w, i32_w]
         rfl
        refine pure_ (i := 1) (N := some 28) (v := ?_) (a' := ?_) #[zB,zB,zF,zF,zF,zF,zF,zF,zF,zF,zF,zF,zF,zF,zF,zF,zF,zF,zF] rfl rfl (any_of HT_.out (by kernel_rfl)) (fun _ _ _ h => h) (Or.inl ⟨by rfl, ?_⟩) ?_ ?_
        rotate_left
        ·
         intro w'
         go_simp
         with_reducible rfl
        rotate_left
        ·
         simp only [Act.put, zS, zT, zU, i64_w, i32_w]
         rfl
        refine pure_ (i := 2) (N := some 29) (v := ?_) (a' := ?_) #[zB,zB,zB,zF,zF,zF,zF,zF,zF,zF,zF,zF,zF,zF,zF,zF,zF,zF,zF] rfl rfl (any_of HT_.out (by kernel_rfl)) (fun _ _ _ h => h) (Or.inl ⟨by rfl, ?_⟩) ?_ ?_
        rotate_left
        ·
         intro w'
         go_simp
         with_reducible rfl
        rotate_left
        ·
         simp only [Act.put, zS, zT, zU, i64_w, i32_w]
         rfl
        refine pure_ (i := 4) (N := some 31) (v := ?_) (a' := ?_) #[zB,zB,zB,zF,zB,zF,zF,zF,zF,zF,zF,zF,zF,zF,zF,zF,zF,zF,zF] rfl rfl (any_of HT_.out (by kernel_rfl)) (fun _ _ _ h => h) (Or.inl ⟨by rfl, ?_⟩) ?_ ?_
        rotate_left
        ·
         intro w'
         go_simp
         with_reducible rfl
        rotate_left
        ·
         simp only [Act.put, zS, zT, zU, i64_w, i32_w]
         rfl
        refine pure_ (i := 5) (N := some 32) (v := ?_) (a' := ?_) #[zB,zB,zB,zF,zB,zB,zF,zF,zF,zF,zF,zF,zF,zF,zF,zF,zF,zF,zF] rfl rfl (any_of HT_.out (by kernel_rfl)) (fun _ _ _ h => h) (Or.inl ⟨by rfl, ?_⟩) ?_ ?_
        rotate_left
        ·
         intro w'
         go_simp
         with_reducible rfl
        rotate_left
        ·
         simp only [Act.put, zS, zT, zU, i64_w, i32_w]
         rfl
        refine pure_ (i := 6) (N := some 33) (v := ?_) (a' := ?_) #[zB,zB,zB,zF,zB,zB,zB,zF,zF,zF,zF,zF,zF,zF,zF,zF,zF,zF,zF] rfl rfl (any_of HT_.out (by kernel_rfl)) (fun _ _ _ h => h) (Or.inl ⟨by rfl, ?_⟩) ?_ ?_
        rotate_left
        ·
         intro w'
         go_simp
         with_reducible rfl
        rotate_left
        ·
         simp only [Act.put, zS, zT, zU, i64_w, i32_w]
         rfl
        refine pure_ (i := 7) (N := some 34) (v := ?_) (a' := ?_) #[zB,zB,zB,zF,zB,zB,zB,zB,zF,zF,zF,zF,zF,zF,zF,zF,zF,zF,zF] rfl rfl (any_of HT_.out (by kernel_rfl)) (fun _ _ _ h => h) (Or.inl ⟨by rfl, ?_⟩) ?_ ?_
        rotate_left
        ·
         intro w'
         go_simp
         with_reducible rfl
        rotate_left
        ·
         simp only [Act.put, zS, zT, zU, i64_w, i32_w]
         rfl
        refine pure_ (i := 10) (N := some 37) (v := ?_) (a' := ?_) #[zB,zB,zB,zF,zB,zB,zB,zB,zF,zF,zB,zF,zF,zF,zF,zF,zF,zF,zF] rfl rfl (any_of HT_.out (by kernel_rfl)) (fun _ _ _ h => h) (Or.inl ⟨by rfl, ?_⟩) ?_ ?_
        rotate_left
        ·
         intro w'
         go_simp
         with_reducible rfl
        rotate_left
        ·
         simp only [Act.put, zS, zT, zU, i64_w, i32_w]
         rfl
        refine pure_ (i := 11) (N := some 38) (v := ?_) (a' := ?_) #[zB,zB,zB,zF,zB,zB,zB,zB,zF,zF,zB,zB,zF,zF,zF,zF,zF,zF,zF] rfl rfl (any_of HT_.out (by kernel_rfl)) (fun _ _ _ h => h) (Or.inl ⟨by rfl, ?_⟩) ?_ ?_
        rotate_left
        ·
         intro w'
         go_simp
         with_reducible rfl
        rotate_left
        ·
         simp only [Act.put, zS, zT, zU, i64_w, i32_w]
         rfl
        refine pure_ (i := 12) (N := some 39) (v := ?_) (a' := ?_) #[zB,zB,zB,zF,zB,zB,zB,zB,zF,zF,zB,zB,zB,zF,zF,zF,zF,zF,zF] rfl rfl (any_of HT_.out (by kernel_rfl)) (fun _ _ _ h => h) (Or.inl ⟨by rfl, ?_⟩) ?_ ?_
        rotate_left
        ·
         intro w'
         go_simp
         with_reducible rfl
        rotate_left
        ·
         simp only [Act.put, zS, zT, zU, i64_w, i32_w]
         rfl
        refine pure_ (i := 13) (N := some 40) (v := ?_) (a' := ?_) #[zB,zB,zB,zF,zB,zB,zB,zB,zF,zF,zB,zB,zB,zB,zF,zF,zF,zF,zF] rfl rfl (any_of HT_.out (by kernel_rfl)) (fun _ _ _ h => h) (Or.inl ⟨by rfl, ?_⟩) ?_ ?_
        rotate_left
        ·
         intro w'
         go_simp
         with_reducible rfl
        rotate_left
        ·
         simp only [Act.put, zS, zT, zU, i64_w, i32_w]
         rfl
        refine take_ (i := 3) (N := some 30) (v := ?_) (a' := ?_) #[zB,zB,zB,zB,zB,zB,zB,zB,zF,zF,zB,zB,zB,zB,zF,zF,zF,zF,zF] rfl rfl (take_ofW HT_.out HW_.out (by kernel_rfl)) (fun _ _ _ h => h) (Or.inl ⟨by rfl, ?_⟩) hHeld ?_ ?_
        rotate_left
        ·
         rintro w' ⟨s0, s1, s2⟩
         go_simp
         with_reducible rfl
        rotate_left
        ·
         simp only [Act.put, zS, zT, zU, i64_w, i32_w]
         rfl
        refine take_ (i := 8) (N := some 35) (v := ?_) (a' := ?_) #[zB,zB,zB,zB,zB,zB,zB,zB,zB,zF,zB,zB,zB,zB,zF,zF,zF,zF,zF] rfl rfl (take_ofW HT_.out HW_.out (by kernel_rfl)) (fun _ _ _ h => h) (Or.inl ⟨by rfl, ?_⟩) hHeld ?_ ?_
        rotate_left
        ·
         rintro w' ⟨s0, s1, s2⟩
         go_simp
         with_reducible rfl
        rotate_left
        ·
         simp only [Act.put, zS, zT, zU, i64_w, i32_w]
         rfl
        refine take_ (i := 14) (N := some 41) (v := ?_) (a' := ?_) #[zB,zB,zB,zB,zB,zB,zB,zB,zB,zF,zB,zB,zB,zB,zB,zF,zF,zF,zF] rfl rfl (take_ofW HT_.out HW_.out (by kernel_rfl)) (fun _ _ _ h => h) (Or.inl ⟨by rfl, ?_⟩) hHeld ?_ ?_
        rotate_left
        ·
         rintro w' ⟨s0, s1, s2⟩
         go_simp
         with_reducible rfl
        rotate_left
        ·
         simp only [Act.put, zS, zT, zU, i64_w, i32_w]
         rfl
        refine join_ (σ := Nat) 1 #[zB,zB,zB,zB,zB,zB,zB,zB,zB,zB,zB,zB,zB,zB,zB,zB,zB,zB,zF] (fun s_ => [(36, .agg #[.string t167, .int .i64 t168, .string t169]), (42, .agg #[.string t171, .int .i64 t172, .string t173]), (9, .pointer (some ⟨s_, 0, none⟩)), (43, .agg #[.string (rdOf ByteArray.empty t162 x8_1), .string t167, .int .i64 t168, .string t169, .string t171, .int .i64 t172, .string t173])]) (fun s_ w' => (w'.cell? (ad165.add (x8_1).toNat) = some (.string (rdOf ByteArray.empty t162 x8_1)) ∧ w'.cell? (ad165.add (x8_1).toNat) = some (.string (rdOf ByteArray.empty t162 x8_1)) ∧ w'.cell? (ad165.add (x8_1).toNat) = some (.string (rdOf ByteArray.empty t162 x8_1))) ∧ (Kd.R k77 77 w' w.heap.size (fun k_ => k_ ≠ s_) u162001 x162001_1) ∧ (Kd.R Kd.string 9 w' w.heap.size (fun _ => True) (.slice (some ad165) t162.length co18) t162) ∧ (w'.heap[gb159]? = some (.cells #[.int .i64 0, .slice none 0 0] 26 (0, 0))) ∧ (w'.heap[gb161]? = some (.cells #[.int .i64 0, u162001] 26 (0, 0))) ∧ (w'.heap[s_]? = some (.cells #[.string (⟨#[]⟩ : ByteArray), .string (⟨#[]⟩ : ByteArray), .int .i64 0, .string (⟨#[]⟩ : ByteArray), .string (⟨#[]⟩ : ByteArray), .int .i64 0, .string (⟨#[]⟩ : ByteArray)] 77 (0, 0))) ∧ (w.heap.size ≤ s_) ∧ (w.heap.size ≤ s_) ∧ (gb159 ≠ s_) ∧ (s_ ≠ gb159) ∧ (gb161 ≠ s_) ∧ (s_ ≠ gb161) ∧ (Below w.heap.size w w')) ?_ ?_
        rotate_left
        ·
         intro hCont
         refine two_ (i := 9) (j := 17) (Ni := some 36) (Nj := some 9) #[zB,zB,zB,zB,zB,zB,zB,zB,zB,zB,zB,zB,zB,zB,zB,zF,zF,zF,zF] #[zB,zB,zB,zB,zB,zB,zB,zB,zB,zF,zB,zB,zB,zB,zB,zF,zF,zB,zF] rfl rfl rfl rfl (two_of HT_.out (by kernel_rfl)) (by decide) (by decide) (fun K hK => ?_) (fun K hK => ?_)
         ·
          skip
          refine goes_ Tryz.func47 (by kernel_rfl) rfl #[.slice A0 l0.length c0, .string (rdOf ByteArray.empty t162 x8_1)] (by rfl) rfl rfl (by (try simp only [List.map_toArray, List.map_cons, List.map_nil]); first | done | rfl | (simp only [List.length_drop, List.length_take]; rfl)) ?_
          with_reducible refine (spec_l7Find.calls k1 _ _ l0 (rdOf ByteArray.empty t162 x8_1) t167 t168 t169 _ ?side1 ?side2 A14.out).mono ?_
          (case side1 => repeat (first | exact (Kd.C_below HR0.out HB.out) | (with_reducible refine Kd.C_alloc ?_ _) | (with_reducible refine Kd.C_drewN ?_ _) | (with_reducible refine Kd.C_drew ?_)))
          (case side2 => exact HC0.out)
          rintro e w20 ⟨rfl, hb⟩
          have HS0_ := (hb.cell (zL _ _ (hHeld.1))).trans (hHeld.1)
          have HS1_ := (hb.cell (zL _ _ (hHeld.2.1))).trans (hHeld.2.1)
          have HS2_ := (hb.cell (zL _ _ (hHeld.2.2))).trans (hHeld.2.2)
          refine ⟨_, rfl, ?_⟩
          have n0_ := zK (Kd.R_below (by (with_reducible repeat (first | apply zR | apply zV | apply zW)); exact HO_7.out) hb)
          have n1_ := zK (Kd.R_below (by (with_reducible repeat (first | apply zR | apply zV | apply zW)); exact HO_162001.out) hb)
          have n2_ := zK (blk_below (g := gb159) (o := .cells #[.int .i64 0, .slice none 0 0] 26 (0, 0)) (by (with_reducible repeat (first | refine zM ?_ _ | refine zP ?_ | refine zQ ?_ _)); exact BK159.out) hb)
          have n3_ := zK (blk_below (g := gb161) (o := .cells #[.int .i64 0, u162001] 26 (0, 0)) (by (with_reducible repeat (first | refine zM ?_ _ | refine zP ?_ | refine zQ ?_ _)); exact BK161.out) hb)
          have n4_ := zK (below_step (by repeat (first | (with_reducible first | exact HB.out | apply zA | apply zN | apply zD | refine below_set ?_ GE159.out | refine below_set ?_ GE161.out) | exact HB.out)) hb)
          clear HO_7
          clear HO_162001
          clear BK159
          clear BK161
          clear HB
          have HO_7 := n0_
          have HO_162001 := n1_
          have BK159 := n2_
          have BK161 := n3_
          have HB := n4_
          clear n0_ n1_ n2_ n3_ n4_
          (try clear hb)
          (try clear hb2)
          (try clear hk)
          (try clear hi)
          refine hK.out _ _ ⟨HS0_, HS1_, HS2_⟩ (fun hHeld => ?_)
          clear hK K
          refine norm_ (a' := ?_) ?_ ?_
          rotate_left
          ·
           show Act.put _ (some 36) _ = _
           simp only [Act.put, zS, zT, zU, i64_w, i32_w]
           rfl
          refine two_ (i := 15) (j := 17) (Ni := some 42) (Nj := some 9) #[zB,zB,zB,zB,zB,zB,zB,zB,zB,zB,zB,zB,zB,zB,zB,zB,zF,zF,zF] #[zB,zB,zB,zB,zB,zB,zB,zB,zB,zB,zB,zB,zB,zB,zB,zF,zF,zB,zF] rfl rfl rfl rfl (two_of HT_.out (by kernel_rfl)) (by decide) (by decide) (fun K hK => ?_) (fun K hK => ?_)
          ·
           skip
           refine goes_ Tryz.func47 (by kernel_rfl) rfl #[.slice A1 l1.length c1, .string (rdOf ByteArray.empty t162 x8_1)] (by rfl) rfl rfl (by (try simp only [List.map_toArray, List.map_cons, List.map_nil]); first | done | rfl | (simp only [List.length_drop, List.length_take]; rfl)) ?_
           with_reducible refine (spec_l7Find.calls k1 _ _ l1 (rdOf ByteArray.empty t162 x8_1) t171 t172 t173 _ ?side1 ?side2 A15.out).mono ?_
           (case side1 => repeat (first | exact (Kd.C_below HR1.out HB.out) | (with_reducible refine Kd.C_alloc ?_ _) | (with_reducible refine Kd.C_drewN ?_ _) | (with_reducible refine Kd.C_drew ?_)))
           (case side2 => exact HC1.out)
           rintro e w21 ⟨rfl, hb⟩
           have HS0_ := (hb.cell (zL _ _ (hHeld.1))).trans (hHeld.1)
           have HS1_ := (hb.cell (zL _ _ (hHeld.2.1))).trans (hHeld.2.1)
           have HS2_ := (hb.cell (zL _ _ (hHeld.2.2))).trans (hHeld.2.2)
           refine ⟨_, rfl, ?_⟩
           have n0_ := zK (Kd.R_below (by (with_reducible repeat (first | apply zR | apply zV | apply zW)); exact HO_7.out) hb)
           have n1_ := zK (Kd.R_below (by (with_reducible repeat (first | apply zR | apply zV | apply zW)); exact HO_162001.out) hb)
           have n2_ := zK (blk_below (g := gb159) (o := .cells #[.int .i64 0, .slice none 0 0] 26 (0, 0)) (by (with_reducible repeat (first | refine zM ?_ _ | refine zP ?_ | refine zQ ?_ _)); exact BK159.out) hb)
           have n3_ := zK (blk_below (g := gb161) (o := .cells #[.int .i64 0, u162001] 26 (0, 0)) (by (with_reducible repeat (first | refine zM ?_ _ | refine zP ?_ | refine zQ ?_ _)); exact BK161.out) hb)
           have n4_ := zK (below_step (by repeat (first | (with_reducible first | exact HB.out | apply zA | apply zN | apply zD | refine below_set ?_ GE159.out | refine below_set ?_ GE161.out) | exact HB.out)) hb)
           clear HO_7
           clear HO_162001
           clear BK159
           clear BK161
           clear HB
           have HO_7 := n0_
           have HO_162001 := n1_
           have BK159 := n2_
           have BK161 := n3_
           have HB := n4_
           clear n0_ n1_ n2_ n3_ n4_
           (try clear hb)
           (try clear hb2)
           (try clear hk)
           (try clear hi)
           refine hK.out _ _ ⟨HS0_, HS1_, HS2_⟩ (fun hHeld => ?_)
           clear hK K
           refine norm_ (a' := ?_) ?_ ?_
           rotate_left
           ·
            show Act.put _ (some 42) _ = _
            simp only [Act.put, zS, zT, zU, i64_w, i32_w]
            rfl
           refine pure_ (i := 16) (N := some 43) (v := ?_) (a' := ?_) #[zB,zB,zB,zB,zB,zB,zB,zB,zB,zB,zB,zB,zB,zB,zB,zB,zB,zF,zF] rfl rfl (any_of HT_.out (by kernel_rfl)) (fun _ _ _ h => h) (Or.inl ⟨by rfl, ?_⟩) ?_ ?_
           rotate_left
           ·
            intro w'
            go_simp
            with_reducible rfl
           rotate_left
           ·
            simp only [Act.put, zS, zT, zU, i64_w, i32_w]
            rfl
           refine one_ (i := 17) (N := some 9) #[zB,zB,zB,zB,zB,zB,zB,zB,zB,zB,zB,zB,zB,zB,zB,zB,zB,zB,zF] rfl rfl (one_of HT_.out (by kernel_rfl)) (by decide) (fun K hK => ?_)
           refine box_step ?hg (N := 9) ?hd (cs := #[.string (⟨#[]⟩ : ByteArray), .string (⟨#[]⟩ : ByteArray), .int .i64 0, .string (⟨#[]⟩ : ByteArray), .string (⟨#[]⟩ : ByteArray), .int .i64 0, .string (⟨#[]⟩ : ByteArray)]) (t := 77) ?hr ?_; (case hd => rfl); (case hg => rfl); (case hr => first | (go_simp; done) | (go_simp; rfl))
           intro gb174 hg w22 hbox hb
           have HS0_ := (hb.cell (zL _ _ (hHeld.1))).trans (hHeld.1)
           have HS1_ := (hb.cell (zL _ _ (hHeld.2.1))).trans (hHeld.2.1)
           have HS2_ := (hb.cell (zL _ _ (hHeld.2.2))).trans (hHeld.2.2)
           have n0_ := zK (Kd.R_below (by (with_reducible repeat (first | apply zR | apply zV | apply zW)); exact HO_7.out) hb)
           have n1_ := zK (Kd.R_below (Kd.R_elderB (by (with_reducible repeat (first | apply zR | apply zV | apply zW)); exact HO_162001.out) gb174 (Nat.le_of_eq hg.symm)) hb)
           have n2_ := zK (blk_below (g := gb159) (o := .cells #[.int .i64 0, .slice none 0 0] 26 (0, 0)) (by (with_reducible repeat (first | refine zM ?_ _ | refine zP ?_ | refine zQ ?_ _)); exact BK159.out) hb)
           have n3_ := zK (blk_below (g := gb161) (o := .cells #[.int .i64 0, u162001] 26 (0, 0)) (by (with_reducible repeat (first | refine zM ?_ _ | refine zP ?_ | refine zQ ?_ _)); exact BK161.out) hb)
           have n4_ := zK (below_step (by repeat (first | (with_reducible first | exact HB.out | apply zA | apply zN | apply zD | refine below_set ?_ GE159.out | refine below_set ?_ GE161.out) | exact HB.out)) hb)
           have n5_ := zK (hbox)
           have n6_ := zK ((by rw [hg]; exact (below_size (by repeat (first | (with_reducible first | exact HB.out | apply zA | apply zN | apply zD | refine below_set ?_ GE159.out | refine below_set ?_ GE161.out) | exact HB.out))) : w.heap.size ≤ gb174))
           have n7_ := zK ((by rw [hg]; exact (below_size (by repeat (first | (with_reducible first | exact HB.out | apply zA | apply zN | apply zD | refine below_set ?_ GE159.out | refine below_set ?_ GE161.out) | exact HB.out))) : w.heap.size ≤ gb174))
           have n8_ := zK ((by rw [hg]; exact Nat.ne_of_lt (blk_lt (g := gb159) (o := .cells #[.int .i64 0, .slice none 0 0] 26 (0, 0)) (by (with_reducible repeat (first | refine zM ?_ _ | refine zP ?_ | refine zQ ?_ _)); exact BK159.out)) : gb159 ≠ gb174))
           have n9_ := zK ((by rw [hg]; exact Nat.ne_of_gt (blk_lt (g := gb159) (o := .cells #[.int .i64 0, .slice none 0 0] 26 (0, 0)) (by (with_reducible repeat (first | refine zM ?_ _ | refine zP ?_ | refine zQ ?_ _)); exact BK159.out)) : gb174 ≠ gb159))
           have n10_ := zK ((by rw [hg]; exact Nat.ne_of_lt (blk_lt (g := gb161) (o := .cells #[.int .i64 0, u162001] 26 (0, 0)) (by (with_reducible repeat (first | refine zM ?_ _ | refine zP ?_ | refine zQ ?_ _)); exact BK161.out)) : gb161 ≠ gb174))
           have n11_ := zK ((by rw [hg]; exact Nat.ne_of_gt (blk_lt (g := gb161) (o := .cells #[.int .i64 0, u162001] 26 (0, 0)) (by (with_reducible repeat (first | refine zM ?_ _ | refine zP ?_ | refine zQ ?_ _)); exact BK161.out)) : gb174 ≠ gb161))
           clear HO_7
           clear HO_162001
           clear BK159
           clear BK161
           clear HB
           have HO_7 := n0_
           have HO_162001 := n1_
           have BK159 := n2_
           have BK161 := n3_
           have HB := n4_
           have BK174 := n5_
           have GW174 := n6_
           have GE174 := n7_
           have NB159_174 := n8_
           have NB174_159 := n9_
           have NB161_174 := n10_
           have NB174_161 := n11_
           clear n0_ n1_ n2_ n3_ n4_ n5_ n6_ n7_ n8_ n9_ n10_ n11_
           clear hb hbox hg
           refine hK.out _ _ ⟨HS0_, HS1_, HS2_⟩ (fun hHeld => ?_)
           clear hK K
           refine norm_ (a' := ?_) ?_ ?_
           rotate_left
           ·
            show Act.put _ (some 9) _ = _
            simp only [Act.put, zS, zT, zU, i64_w, i32_w]
            rfl
           exact norm_ (by simp only [putAll, Act.put, zS, zT, zU]) (hCont (gb174) _ ⟨hHeld, (by (with_reducible repeat (first | apply zR | apply zV | apply zW)); exact Kd.R_mono HO_162001.out (fun _ hk => hk.2)), (by (with_reducible repeat (first | apply zR | apply zV | apply zW)); exact HO_7.out), (by (with_reducible repeat (first | refine zM ?_ _ | refine zP ?_ | refine zQ ?_ _)); exact BK159.out), (by (with_reducible repeat (first | refine zM ?_ _ | refine zP ?_ | refine zQ ?_ _)); exact BK161.out), (by (with_reducible repeat (first | refine zM ?_ _ | refine zP ?_ | refine zQ ?_ _)); exact BK174.out), GW174.out, GE174.out, NB159_174.out, NB174_159.out, NB161_174.out, NB174_161.out, (by repeat (first | (with_reducible first | exact HB.out | apply zA | apply zN | apply zD | refine below_set ?_ GE159.out | refine below_set ?_ GE161.out | refine below_set ?_ GE174.out) | exact HB.out))⟩)
          ·
           skip
           refine box_step ?hg (N := 9) ?hd (cs := #[.string (⟨#[]⟩ : ByteArray), .string (⟨#[]⟩ : ByteArray), .int .i64 0, .string (⟨#[]⟩ : ByteArray), .string (⟨#[]⟩ : ByteArray), .int .i64 0, .string (⟨#[]⟩ : ByteArray)]) (t := 77) ?hr ?_; (case hd => rfl); (case hg => rfl); (case hr => first | (go_simp; done) | (go_simp; rfl))
           intro gb174 hg w21 hbox hb
           have HS0_ := (hb.cell (zL _ _ (hHeld.1))).trans (hHeld.1)
           have HS1_ := (hb.cell (zL _ _ (hHeld.2.1))).trans (hHeld.2.1)
           have HS2_ := (hb.cell (zL _ _ (hHeld.2.2))).trans (hHeld.2.2)
           have n0_ := zK (Kd.R_below (by (with_reducible repeat (first | apply zR | apply zV | apply zW)); exact HO_7.out) hb)
           have n1_ := zK (Kd.R_below (Kd.R_elderB (by (with_reducible repeat (first | apply zR | apply zV | apply zW)); exact HO_162001.out) gb174 (Nat.le_of_eq hg.symm)) hb)
           have n2_ := zK (blk_below (g := gb159) (o := .cells #[.int .i64 0, .slice none 0 0] 26 (0, 0)) (by (with_reducible repeat (first | refine zM ?_ _ | refine zP ?_ | refine zQ ?_ _)); exact BK159.out) hb)
           have n3_ := zK (blk_below (g := gb161) (o := .cells #[.int .i64 0, u162001] 26 (0, 0)) (by (with_reducible repeat (first | refine zM ?_ _ | refine zP ?_ | refine zQ ?_ _)); exact BK161.out) hb)
           have n4_ := zK (below_step (by repeat (first | (with_reducible first | exact HB.out | apply zA | apply zN | apply zD | refine below_set ?_ GE159.out | refine below_set ?_ GE161.out) | exact HB.out)) hb)
           have n5_ := zK (hbox)
           have n6_ := zK ((by rw [hg]; exact (below_size (by repeat (first | (with_reducible first | exact HB.out | apply zA | apply zN | apply zD | refine below_set ?_ GE159.out | refine below_set ?_ GE161.out) | exact HB.out))) : w.heap.size ≤ gb174))
           have n7_ := zK ((by rw [hg]; exact (below_size (by repeat (first | (with_reducible first | exact HB.out | apply zA | apply zN | apply zD | refine below_set ?_ GE159.out | refine below_set ?_ GE161.out) | exact HB.out))) : w.heap.size ≤ gb174))
           have n8_ := zK ((by rw [hg]; exact Nat.ne_of_lt (blk_lt (g := gb159) (o := .cells #[.int .i64 0, .slice none 0 0] 26 (0, 0)) (by (with_reducible repeat (first | refine zM ?_ _ | refine zP ?_ | refine zQ ?_ _)); exact BK159.out)) : gb159 ≠ gb174))
           have n9_ := zK ((by rw [hg]; exact Nat.ne_of_gt (blk_lt (g := gb159) (o := .cells #[.int .i64 0, .slice none 0 0] 26 (0, 0)) (by (with_reducible repeat (first | refine zM ?_ _ | refine zP ?_ | refine zQ ?_ _)); exact BK159.out)) : gb174 ≠ gb159))
           have n10_ := zK ((by rw [hg]; exact Nat.ne_of_lt (blk_lt (g := gb161) (o := .cells #[.int .i64 0, u162001] 26 (0, 0)) (by (with_reducible repeat (first | refine zM ?_ _ | refine zP ?_ | refine zQ ?_ _)); exact BK161.out)) : gb161 ≠ gb174))
           have n11_ := zK ((by rw [hg]; exact Nat.ne_of_gt (blk_lt (g := gb161) (o := .cells #[.int .i64 0, u162001] 26 (0, 0)) (by (with_reducible repeat (first | refine zM ?_ _ | refine zP ?_ | refine zQ ?_ _)); exact BK161.out)) : gb174 ≠ gb161))
           clear HO_7
           clear HO_162001
           clear BK159
           clear BK161
           clear HB
           have HO_7 := n0_
           have HO_162001 := n1_
           have BK159 := n2_
           have BK161 := n3_
           have HB := n4_
           have BK174 := n5_
           have GW174 := n6_
           have GE174 := n7_
           have NB159_174 := n8_
           have NB174_159 := n9_
           have NB161_174 := n10_
           have NB174_161 := n11_
           clear n0_ n1_ n2_ n3_ n4_ n5_ n6_ n7_ n8_ n9_ n10_ n11_
           clear hb hbox hg
           refine hK.out _ _ ⟨HS0_, HS1_, HS2_⟩ (fun hHeld => ?_)
           clear hK K
           refine norm_ (a' := ?_) ?_ ?_
           rotate_left
           ·
            show Act.put _ (some 9) _ = _
            simp only [Act.put, zS, zT, zU, i64_w, i32_w]
            rfl
           refine one_ (i := 15) (N := some 42) #[zB,zB,zB,zB,zB,zB,zB,zB,zB,zB,zB,zB,zB,zB,zB,zB,zF,zB,zF] rfl rfl (one_of HT_.out (by kernel_rfl)) (by decide) (fun K hK => ?_)
           refine goes_ Tryz.func47 (by kernel_rfl) rfl #[.slice A1 l1.length c1, .string (rdOf ByteArray.empty t162 x8_1)] (by rfl) rfl rfl (by (try simp only [List.map_toArray, List.map_cons, List.map_nil]); first | done | rfl | (simp only [List.length_drop, List.length_take]; rfl)) ?_
           with_reducible refine (spec_l7Find.calls k1 _ _ l1 (rdOf ByteArray.empty t162 x8_1) t171 t172 t173 _ ?side1 ?side2 A15.out).mono ?_
           (case side1 => repeat (first | exact (Kd.C_below HR1.out HB.out) | (with_reducible refine Kd.C_alloc ?_ _) | (with_reducible refine Kd.C_drewN ?_ _) | (with_reducible refine Kd.C_drew ?_)))
           (case side2 => exact HC1.out)
           rintro e w22 ⟨rfl, hb⟩
           have HS0_ := (hb.cell (zL _ _ (hHeld.1))).trans (hHeld.1)
           have HS1_ := (hb.cell (zL _ _ (hHeld.2.1))).trans (hHeld.2.1)
           have HS2_ := (hb.cell (zL _ _ (hHeld.2.2))).trans (hHeld.2.2)
           refine ⟨_, rfl, ?_⟩
           have n0_ := zK (Kd.R_below (by (with_reducible repeat (first | apply zR | apply zV | apply zW)); exact HO_7.out) hb)
           have n1_ := zK (Kd.R_below (by (with_reducible repeat (first | apply zR | apply zV | apply zW)); exact HO_162001.out) hb)
           have n2_ := zK (blk_below (g := gb159) (o := .cells #[.int .i64 0, .slice none 0 0] 26 (0, 0)) (by (with_reducible repeat (first | refine zM ?_ _ | refine zP ?_ | refine zQ ?_ _)); exact BK159.out) hb)
           have n3_ := zK (blk_below (g := gb161) (o := .cells #[.int .i64 0, u162001] 26 (0, 0)) (by (with_reducible repeat (first | refine zM ?_ _ | refine zP ?_ | refine zQ ?_ _)); exact BK161.out) hb)
           have n4_ := zK (blk_below (g := gb174) (o := .cells #[.string (⟨#[]⟩ : ByteArray), .string (⟨#[]⟩ : ByteArray), .int .i64 0, .string (⟨#[]⟩ : ByteArray), .string (⟨#[]⟩ : ByteArray), .int .i64 0, .string (⟨#[]⟩ : ByteArray)] 77 (0, 0)) (by (with_reducible repeat (first | refine zM ?_ _ | refine zP ?_ | refine zQ ?_ _)); exact BK174.out) hb)
           have n5_ := zK (below_step (by repeat (first | (with_reducible first | exact HB.out | apply zA | apply zN | apply zD | refine below_set ?_ GE159.out | refine below_set ?_ GE161.out | refine below_set ?_ GE174.out) | exact HB.out)) hb)
           clear HO_7
           clear HO_162001
           clear BK159
           clear BK161
           clear BK174
           clear HB
           have HO_7 := n0_
           have HO_162001 := n1_
           have BK159 := n2_
           have BK161 := n3_
           have BK174 := n4_
           have HB := n5_
           clear n0_ n1_ n2_ n3_ n4_ n5_
           (try clear hb)
           (try clear hb2)
           (try clear hk)
           (try clear hi)
           refine hK.out _ _ ⟨HS0_, HS1_, HS2_⟩ (fun hHeld => ?_)
           clear hK K
           refine norm_ (a' := ?_) ?_ ?_
           rotate_left
           ·
            show Act.put _ (some 42) _ = _
            simp only [Act.put, zS, zT, zU, i64_w, i32_w]
            rfl
           refine pure_ (i := 16) (N := some 43) (v := ?_) (a' := ?_) #[zB,zB,zB,zB,zB,zB,zB,zB,zB,zB,zB,zB,zB,zB,zB,zB,zB,zB,zF] rfl rfl (any_of HT_.out (by kernel_rfl)) (fun _ _ _ h => h) (Or.inl ⟨by rfl, ?_⟩) ?_ ?_
           rotate_left
           ·
            intro w'
            go_simp
            with_reducible rfl
           rotate_left
           ·
            simp only [Act.put, zS, zT, zU, i64_w, i32_w]
            rfl
           exact norm_ (by simp only [putAll, Act.put, zS, zT, zU]) (hCont (gb174) _ ⟨hHeld, (by (with_reducible repeat (first | apply zR | apply zV | apply zW)); exact Kd.R_mono HO_162001.out (fun _ hk => hk.2)), (by (with_reducible repeat (first | apply zR | apply zV | apply zW)); exact HO_7.out), (by (with_reducible repeat (first | refine zM ?_ _ | refine zP ?_ | refine zQ ?_ _)); exact BK159.out), (by (with_reducible repeat (first | refine zM ?_ _ | refine zP ?_ | refine zQ ?_ _)); exact BK161.out), (by (with_reducible repeat (first | refine zM ?_ _ | refine zP ?_ | refine zQ ?_ _)); exact BK174.out), GW174.out, GE174.out, NB159_174.out, NB174_159.out, NB161_174.out, NB174_161.out, (by repeat (first | (with_reducible first | exact HB.out | apply zA | apply zN | apply zD | refine below_set ?_ GE159.out | refine below_set ?_ GE161.out | refine below_set ?_ GE174.out) | exact HB.out))⟩)
         ·
          skip
          refine box_step ?hg (N := 9) ?hd (cs := #[.string (⟨#[]⟩ : ByteArray), .string (⟨#[]⟩ : ByteArray), .int .i64 0, .string (⟨#[]⟩ : ByteArray), .string (⟨#[]⟩ : ByteArray), .int .i64 0, .string (⟨#[]⟩ : ByteArray)]) (t := 77) ?hr ?_; (case hd => rfl); (case hg => rfl); (case hr => first | (go_simp; done) | (go_simp; rfl))
          intro gb174 hg w20 hbox hb
          have HS0_ := (hb.cell (zL _ _ (hHeld.1))).trans (hHeld.1)
          have HS1_ := (hb.cell (zL _ _ (hHeld.2.1))).trans (hHeld.2.1)
          have HS2_ := (hb.cell (zL _ _ (hHeld.2.2))).trans (hHeld.2.2)
          have n0_ := zK (Kd.R_below (by (with_reducible repeat (first | apply zR | apply zV | apply zW)); exact HO_7.out) hb)
          have n1_ := zK (Kd.R_below (Kd.R_elderB (by (with_reducible repeat (first | apply zR | apply zV | apply zW)); exact HO_162001.out) gb174 (Nat.le_of_eq hg.symm)) hb)
          have n2_ := zK (blk_below (g := gb159) (o := .cells #[.int .i64 0, .slice none 0 0] 26 (0, 0)) (by (with_reducible repeat (first | refine zM ?_ _ | refine zP ?_ | refine zQ ?_ _)); exact BK159.out) hb)
          have n3_ := zK (blk_below (g := gb161) (o := .cells #[.int .i64 0, u162001] 26 (0, 0)) (by (with_reducible repeat (first | refine zM ?_ _ | refine zP ?_ | refine zQ ?_ _)); exact BK161.out) hb)
          have n4_ := zK (below_step (by repeat (first | (with_reducible first | exact HB.out | apply zA | apply zN | apply zD | refine below_set ?_ GE159.out | refine below_set ?_ GE161.out) | exact HB.out)) hb)
          have n5_ := zK (hbox)
          have n6_ := zK ((by rw [hg]; exact (below_size (by repeat (first | (with_reducible first | exact HB.out | apply zA | apply zN | apply zD | refine below_set ?_ GE159.out | refine below_set ?_ GE161.out) | exact HB.out))) : w.heap.size ≤ gb174))
          have n7_ := zK ((by rw [hg]; exact (below_size (by repeat (first | (with_reducible first | exact HB.out | apply zA | apply zN | apply zD | refine below_set ?_ GE159.out | refine below_set ?_ GE161.out) | exact HB.out))) : w.heap.size ≤ gb174))
          have n8_ := zK ((by rw [hg]; exact Nat.ne_of_lt (blk_lt (g := gb159) (o := .cells #[.int .i64 0, .slice none 0 0] 26 (0, 0)) (by (with_reducible repeat (first | refine zM ?_ _ | refine zP ?_ | refine zQ ?_ _)); exact BK159.out)) : gb159 ≠ gb174))
          have n9_ := zK ((by rw [hg]; exact Nat.ne_of_gt (blk_lt (g := gb159) (o := .cells #[.int .i64 0, .slice none 0 0] 26 (0, 0)) (by (with_reducible repeat (first | refine zM ?_ _ | refine zP ?_ | refine zQ ?_ _)); exact BK159.out)) : gb174 ≠ gb159))
          have n10_ := zK ((by rw [hg]; exact Nat.ne_of_lt (blk_lt (g := gb161) (o := .cells #[.int .i64 0, u162001] 26 (0, 0)) (by (with_reducible repeat (first | refine zM ?_ _ | refine zP ?_ | refine zQ ?_ _)); exact BK161.out)) : gb161 ≠ gb174))
          have n11_ := zK ((by rw [hg]; exact Nat.ne_of_gt (blk_lt (g := gb161) (o := .cells #[.int .i64 0, u162001] 26 (0, 0)) (by (with_reducible repeat (first | refine zM ?_ _ | refine zP ?_ | refine zQ ?_ _)); exact BK161.out)) : gb174 ≠ gb161))
          clear HO_7
          clear HO_162001
          clear BK159
          clear BK161
          clear HB
          have HO_7 := n0_
          have HO_162001 := n1_
          have BK159 := n2_
          have BK161 := n3_
          have HB := n4_
          have BK174 := n5_
          have GW174 := n6_
          have GE174 := n7_
          have NB159_174 := n8_
          have NB174_159 := n9_
          have NB161_174 := n10_
          have NB174_161 := n11_
          clear n0_ n1_ n2_ n3_ n4_ n5_ n6_ n7_ n8_ n9_ n10_ n11_
          clear hb hbox hg
          refine hK.out _ _ ⟨HS0_, HS1_, HS2_⟩ (fun hHeld => ?_)
          clear hK K
          refine norm_ (a' := ?_) ?_ ?_
          rotate_left
          ·
           show Act.put _ (some 9) _ = _
           simp only [Act.put, zS, zT, zU, i64_w, i32_w]
           rfl
          refine one_ (i := 9) (N := some 36) #[zB,zB,zB,zB,zB,zB,zB,zB,zB,zB,zB,zB,zB,zB,zB,zF,zF,zB,zF] rfl rfl (one_of HT_.out (by kernel_rfl)) (by decide) (fun K hK => ?_)
          refine goes_ Tryz.func47 (by kernel_rfl) rfl #[.slice A0 l0.length c0, .string (rdOf ByteArray.empty t162 x8_1)] (by rfl) rfl rfl (by (try simp only [List.map_toArray, List.map_cons, List.map_nil]); first | done | rfl | (simp only [List.length_drop, List.length_take]; rfl)) ?_
          with_reducible refine (spec_l7Find.calls k1 _ _ l0 (rdOf ByteArray.empty t162 x8_1) t167 t168 t169 _ ?side1 ?side2 A14.out).mono ?_
          (case side1 => repeat (first | exact (Kd.C_below HR0.out HB.out) | (with_reducible refine Kd.C_alloc ?_ _) | (with_reducible refine Kd.C_drewN ?_ _) | (with_reducible refine Kd.C_drew ?_)))
          (case side2 => exact HC0.out)
          rintro e w21 ⟨rfl, hb⟩
          have HS0_ := (hb.cell (zL _ _ (hHeld.1))).trans (hHeld.1)
          have HS1_ := (hb.cell (zL _ _ (hHeld.2.1))).trans (hHeld.2.1)
          have HS2_ := (hb.cell (zL _ _ (hHeld.2.2))).trans (hHeld.2.2)
          refine ⟨_, rfl, ?_⟩
          have n0_ := zK (Kd.R_below (by (with_reducible repeat (first | apply zR | apply zV | apply zW)); exact HO_7.out) hb)
          have n1_ := zK (Kd.R_below (by (with_reducible repeat (first | apply zR | apply zV | apply zW)); exact HO_162001.out) hb)
          have n2_ := zK (blk_below (g := gb159) (o := .cells #[.int .i64 0, .slice none 0 0] 26 (0, 0)) (by (with_reducible repeat (first | refine zM ?_ _ | refine zP ?_ | refine zQ ?_ _)); exact BK159.out) hb)
          have n3_ := zK (blk_below (g := gb161) (o := .cells #[.int .i64 0, u162001] 26 (0, 0)) (by (with_reducible repeat (first | refine zM ?_ _ | refine zP ?_ | refine zQ ?_ _)); exact BK161.out) hb)
          have n4_ := zK (blk_below (g := gb174) (o := .cells #[.string (⟨#[]⟩ : ByteArray), .string (⟨#[]⟩ : ByteArray), .int .i64 0, .string (⟨#[]⟩ : ByteArray), .string (⟨#[]⟩ : ByteArray), .int .i64 0, .string (⟨#[]⟩ : ByteArray)] 77 (0, 0)) (by (with_reducible repeat (first | refine zM ?_ _ | refine zP ?_ | refine zQ ?_ _)); exact BK174.out) hb)
          have n5_ := zK (below_step (by repeat (first | (with_reducible first | exact HB.out | apply zA | apply zN | apply zD | refine below_set ?_ GE159.out | refine below_set ?_ GE161.out | refine below_set ?_ GE174.out) | exact HB.out)) hb)
          clear HO_7
          clear HO_162001
          clear BK159
          clear BK161
          clear BK174
          clear HB
          have HO_7 := n0_
          have HO_162001 := n1_
          have BK159 := n2_
          have BK161 := n3_
          have BK174 := n4_
          have HB := n5_
          clear n0_ n1_ n2_ n3_ n4_ n5_
          (try clear hb)
          (try clear hb2)
          (try clear hk)
          (try clear hi)
          refine hK.out _ _ ⟨HS0_, HS1_, HS2_⟩ (fun hHeld => ?_)
          clear hK K
          refine norm_ (a' := ?_) ?_ ?_
          rotate_left
          ·
           show Act.put _ (some 36) _ = _
           simp only [Act.put, zS, zT, zU, i64_w, i32_w]
           rfl
          refine one_ (i := 15) (N := some 42) #[zB,zB,zB,zB,zB,zB,zB,zB,zB,zB,zB,zB,zB,zB,zB,zB,zF,zB,zF] rfl rfl (one_of HT_.out (by kernel_rfl)) (by decide) (fun K hK => ?_)
          refine goes_ Tryz.func47 (by kernel_rfl) rfl #[.slice A1 l1.length c1, .string (rdOf ByteArray.empty t162 x8_1)] (by rfl) rfl rfl (by (try simp only [List.map_toArray, List.map_cons, List.map_nil]); first | done | rfl | (simp only [List.length_drop, List.length_take]; rfl)) ?_
          with_reducible refine (spec_l7Find.calls k1 _ _ l1 (rdOf ByteArray.empty t162 x8_1) t171 t172 t173 _ ?side1 ?side2 A15.out).mono ?_
          (case side1 => repeat (first | exact (Kd.C_below HR1.out HB.out) | (with_reducible refine Kd.C_alloc ?_ _) | (with_reducible refine Kd.C_drewN ?_ _) | (with_reducible refine Kd.C_drew ?_)))
          (case side2 => exact HC1.out)
          rintro e w22 ⟨rfl, hb⟩
          have HS0_ := (hb.cell (zL _ _ (hHeld.1))).trans (hHeld.1)
          have HS1_ := (hb.cell (zL _ _ (hHeld.2.1))).trans (hHeld.2.1)
          have HS2_ := (hb.cell (zL _ _ (hHeld.2.2))).trans (hHeld.2.2)
          refine ⟨_, rfl, ?_⟩
          have n0_ := zK (Kd.R_below (by (with_reducible repeat (first | apply zR | apply zV | apply zW)); exact HO_7.out) hb)
          have n1_ := zK (Kd.R_below (by (with_reducible repeat (first | apply zR | apply zV | apply zW)); exact HO_162001.out) hb)
          have n2_ := zK (blk_below (g := gb159) (o := .cells #[.int .i64 0, .slice none 0 0] 26 (0, 0)) (by (with_reducible repeat (first | refine zM ?_ _ | refine zP ?_ | refine zQ ?_ _)); exact BK159.out) hb)
          have n3_ := zK (blk_below (g := gb161) (o := .cells #[.int .i64 0, u162001] 26 (0, 0)) (by (with_reducible repeat (first | refine zM ?_ _ | refine zP ?_ | refine zQ ?_ _)); exact BK161.out) hb)
          have n4_ := zK (blk_below (g := gb174) (o := .cells #[.string (⟨#[]⟩ : ByteArray), .string (⟨#[]⟩ : ByteArray), .int .i64 0, .string (⟨#[]⟩ : ByteArray), .string (⟨#[]⟩ : ByteArray), .int .i64 0, .string (⟨#[]⟩ : ByteArray)] 77 (0, 0)) (by (with_reducible repeat (first | refine zM ?_ _ | refine zP ?_ | refine zQ ?_ _)); exact BK174.out) hb)
          have n5_ := zK (below_step (by repeat (first | (with_reducible first | exact HB.out | apply zA | apply zN | apply zD | refine below_set ?_ GE159.out | refine below_set ?_ GE161.out | refine below_set ?_ GE174.out) | exact HB.out)) hb)
          clear HO_7
          clear HO_162001
          clear BK159
          clear BK161
          clear BK174
          clear HB
          have HO_7 := n0_
          have HO_162001 := n1_
          have BK159 := n2_
          have BK161 := n3_
          have BK174 := n4_
          have HB := n5_
          clear n0_ n1_ n2_ n3_ n4_ n5_
          (try clear hb)
          (try clear hb2)
          (try clear hk)
          (try clear hi)
          refine hK.out _ _ ⟨HS0_, HS1_, HS2_⟩ (fun hHeld => ?_)
          clear hK K
          refine norm_ (a' := ?_) ?_ ?_
          rotate_left
          ·
           show Act.put _ (some 42) _ = _
           simp only [Act.put, zS, zT, zU, i64_w, i32_w]
           rfl
          refine pure_ (i := 16) (N := some 43) (v := ?_) (a' := ?_) #[zB,zB,zB,zB,zB,zB,zB,zB,zB,zB,zB,zB,zB,zB,zB,zB,zB,zB,zF] rfl rfl (any_of HT_.out (by kernel_rfl)) (fun _ _ _ h => h) (Or.inl ⟨by rfl, ?_⟩) ?_ ?_
          rotate_left
          ·
           intro w'
           go_simp
           with_reducible rfl
          rotate_left
          ·
           simp only [Act.put, zS, zT, zU, i64_w, i32_w]
           rfl
          exact norm_ (by simp only [putAll, Act.put, zS, zT, zU]) (hCont (gb174) _ ⟨hHeld, (by (with_reducible repeat (first | apply zR | apply zV | apply zW)); exact Kd.R_mono HO_162001.out (fun _ hk => hk.2)), (by (with_reducible repeat (first | apply zR | apply zV | apply zW)); exact HO_7.out), (by (with_reducible repeat (first | refine zM ?_ _ | refine zP ?_ | refine zQ ?_ _)); exact BK159.out), (by (with_reducible repeat (first | refine zM ?_ _ | refine zP ?_ | refine zQ ?_ _)); exact BK161.out), (by (with_reducible repeat (first | refine zM ?_ _ | refine zP ?_ | refine zQ ?_ _)); exact BK174.out), GW174.out, GE174.out, NB159_174.out, NB174_159.out, NB161_174.out, NB174_161.out, (by repeat (first | (with_reducible first | exact HB.out | apply zA | apply zN | apply zD | refine below_set ?_ GE159.out | refine below_set ?_ GE161.out | refine below_set ?_ GE174.out) | exact HB.out))⟩)
        rintro gb174 w23 ⟨hS_, h0_, h1_, h2_, h3_, h4_, h5_, h6_, h7_, h8_, h9_, h10_, h11_⟩
        have n0_ : Aside0 (Kd.R k77 77 w23 w.heap.size (fun k_ => k_ ≠ gb174) u162001 x162001_1) := ⟨h0_⟩
        have n1_ : Aside0 (Kd.R Kd.string 9 w23 w.heap.size (fun _ => True) (.slice (some ad165) t162.length co18) t162) := ⟨h1_⟩
        have n2_ : Aside0 (w23.heap[gb159]? = some (.cells #[.int .i64 0, .slice none 0 0] 26 (0, 0))) := ⟨h2_⟩
        have n3_ : Aside0 (w23.heap[gb161]? = some (.cells #[.int .i64 0, u162001] 26 (0, 0))) := ⟨h3_⟩
        have n4_ : Aside0 (w23.heap[gb174]? = some (.cells #[.string (⟨#[]⟩ : ByteArray), .string (⟨#[]⟩ : ByteArray), .int .i64 0, .string (⟨#[]⟩ : ByteArray), .string (⟨#[]⟩ : ByteArray), .int .i64 0, .string (⟨#[]⟩ : ByteArray)] 77 (0, 0))) := ⟨h4_⟩
        have n5_ : Aside0 (w.heap.size ≤ gb174) := ⟨h5_⟩
        have n6_ : Aside0 (w.heap.size ≤ gb174) := ⟨h6_⟩
        have n7_ : Aside0 (gb159 ≠ gb174) := ⟨h7_⟩
        have n8_ : Aside0 (gb174 ≠ gb159) := ⟨h8_⟩
        have n9_ : Aside0 (gb161 ≠ gb174) := ⟨h9_⟩
        have n10_ : Aside0 (gb174 ≠ gb161) := ⟨h10_⟩
        have n11_ : Aside0 (Below w.heap.size w w23) := ⟨h11_⟩
        clear HO_7
        clear HO_162001
        clear BK159
        clear BK161
        clear HB
        clear h0_ h1_ h2_ h3_ h4_ h5_ h6_ h7_ h8_ h9_ h10_ h11_
        have HO_162001 := n0_
        have HO_7 := n1_
        have BK159 := n2_
        have BK161 := n3_
        have BK174 := n4_
        have GW174 := n5_
        have GE174 := n6_
        have NB159_174 := n7_
        have NB174_159 := n8_
        have NB161_174 := n9_
        have NB174_161 := n10_
        have HB := n11_
        clear n0_ n1_ n2_ n3_ n4_ n5_ n6_ n7_ n8_ n9_ n10_ n11_
        have hHeld : w23.cell? (ad165.add (x8_1).toNat) = some (.string (rdOf ByteArray.empty t162 x8_1)) ∧ w23.cell? (ad165.add (x8_1).toNat) = some (.string (rdOf ByteArray.empty t162 x8_1)) ∧ w23.cell? (ad165.add (x8_1).toNat) = some (.string (rdOf ByteArray.empty t162 x8_1)) := hS_
        refine norm_ (a' := ?_) ?_ ?_
        rotate_left
        ·
         simp only [putAll, Act.put, zS, zT, zU]
         rfl
        refine one_ (i := 18) (N := none) #[zB,zB,zB,zB,zB,zB,zB,zB,zB,zB,zB,zB,zB,zB,zB,zB,zB,zB,zB] rfl rfl (one_of HT_.out (by kernel_rfl)) (by decide) (fun K hK => ?_)
        have hs24 : w23.cell? ⟨gb174, 0, none⟩ = some (.string (⟨#[]⟩ : ByteArray)) := (blk_cell BK174.out 0).trans rfl
        have hfs24 := blk_frozen BK174.out 0
        have hns24_0 := NB159_174.out
        have hns24_1 := NB161_174.out
        have hms24_0 := NB174_159.out
        have hms24_1 := NB174_161.out
        have hs25 : w23.cell? ⟨gb174, 1, none⟩ = some (.string (⟨#[]⟩ : ByteArray)) := (blk_cell BK174.out 1).trans rfl
        have hfs25 := blk_frozen BK174.out 1
        have hns25_0 := NB159_174.out
        have hns25_1 := NB161_174.out
        have hms25_0 := NB174_159.out
        have hms25_1 := NB174_161.out
        have hs26 : w23.cell? ⟨gb174, 2, none⟩ = some (.int .i64 0) := (blk_cell BK174.out 2).trans rfl
        have hfs26 := blk_frozen BK174.out 2
        have hns26_0 := NB159_174.out
        have hns26_1 := NB161_174.out
        have hms26_0 := NB174_159.out
        have hms26_1 := NB174_161.out
        have hs27 : w23.cell? ⟨gb174, 3, none⟩ = some (.string (⟨#[]⟩ : ByteArray)) := (blk_cell BK174.out 3).trans rfl
        have hfs27 := blk_frozen BK174.out 3
        have hns27_0 := NB159_174.out
        have hns27_1 := NB161_174.out
        have hms27_0 := NB174_159.out
        have hms27_1 := NB174_161.out
        have hs28 : w23.cell? ⟨gb174, 4, none⟩ = some (.string (⟨#[]⟩ : ByteArray)) := (blk_cell BK174.out 4).trans rfl
        have hfs28 := blk_frozen BK174.out 4
        have hns28_0 := NB159_174.out
        have hns28_1 := NB161_174.out
        have hms28_0 := NB174_159.out
        have hms28_1 := NB174_161.out
        have hs29 : w23.cell? ⟨gb174, 5, none⟩ = some (.int .i64 0) := (blk_cell BK174.out 5).trans rfl
        have hfs29 := blk_frozen BK174.out 5
        have hns29_0 := NB159_174.out
        have hns29_1 := NB161_174.out
        have hms29_0 := NB174_159.out
        have hms29_1 := NB174_161.out
        have hs30 : w23.cell? ⟨gb174, 6, none⟩ = some (.string (⟨#[]⟩ : ByteArray)) := (blk_cell BK174.out 6).trans rfl
        have hfs30 := blk_frozen BK174.out 6
        have hns30_0 := NB159_174.out
        have hns30_1 := NB161_174.out
        have hms30_0 := NB174_159.out
        have hms30_1 := NB174_161.out
        refine skip_ (w1 := ?_) (by rfl) rfl ?_ ?_
        rotate_left
        ·
         go_simp
         rfl
        refine hK.out _ _ ⟨((cell_far (p := ⟨gb174, _, none⟩) (by first | exact Kd.own_blk (Kd.R_ne HO_7.out BK174.out (by decide)) | (rw [add_block]; exact Kd.own_blk (Kd.R_ne HO_7.out BK174.out (by decide))) | (show (Addr.add _ _).block ≠ _; rw [add_block]; exact Kd.own_blk (Kd.R_ne HO_7.out BK174.out (by decide))) | (dsimp only; exact Kd.own_blk (Kd.R_ne HO_7.out BK174.out (by decide)))) _).trans (((cell_far (p := ⟨gb174, _, none⟩) (by first | exact Kd.own_blk (Kd.R_ne HO_7.out BK174.out (by decide)) | (rw [add_block]; exact Kd.own_blk (Kd.R_ne HO_7.out BK174.out (by decide))) | (show (Addr.add _ _).block ≠ _; rw [add_block]; exact Kd.own_blk (Kd.R_ne HO_7.out BK174.out (by decide))) | (dsimp only; exact Kd.own_blk (Kd.R_ne HO_7.out BK174.out (by decide)))) _).trans (((cell_far (p := ⟨gb174, _, none⟩) (by first | exact Kd.own_blk (Kd.R_ne HO_7.out BK174.out (by decide)) | (rw [add_block]; exact Kd.own_blk (Kd.R_ne HO_7.out BK174.out (by decide))) | (show (Addr.add _ _).block ≠ _; rw [add_block]; exact Kd.own_blk (Kd.R_ne HO_7.out BK174.out (by decide))) | (dsimp only; exact Kd.own_blk (Kd.R_ne HO_7.out BK174.out (by decide)))) _).trans (((cell_far (p := ⟨gb174, _, none⟩) (by first | exact Kd.own_blk (Kd.R_ne HO_7.out BK174.out (by decide)) | (rw [add_block]; exact Kd.own_blk (Kd.R_ne HO_7.out BK174.out (by decide))) | (show (Addr.add _ _).block ≠ _; rw [add_block]; exact Kd.own_blk (Kd.R_ne HO_7.out BK174.out (by decide))) | (dsimp only; exact Kd.own_blk (Kd.R_ne HO_7.out BK174.out (by decide)))) _).trans (((cell_far (p := ⟨gb174, _, none⟩) (by first | exact Kd.own_blk (Kd.R_ne HO_7.out BK174.out (by decide)) | (rw [add_block]; exact Kd.own_blk (Kd.R_ne HO_7.out BK174.out (by decide))) | (show (Addr.add _ _).block ≠ _; rw [add_block]; exact Kd.own_blk (Kd.R_ne HO_7.out BK174.out (by decide))) | (dsimp only; exact Kd.own_blk (Kd.R_ne HO_7.out BK174.out (by decide)))) _).trans (((cell_far (p := ⟨gb174, _, none⟩) (by first | exact Kd.own_blk (Kd.R_ne HO_7.out BK174.out (by decide)) | (rw [add_block]; exact Kd.own_blk (Kd.R_ne HO_7.out BK174.out (by decide))) | (show (Addr.add _ _).block ≠ _; rw [add_block]; exact Kd.own_blk (Kd.R_ne HO_7.out BK174.out (by decide))) | (dsimp only; exact Kd.own_blk (Kd.R_ne HO_7.out BK174.out (by decide)))) _).trans (((cell_far (p := ⟨gb174, _, none⟩) (by first | exact Kd.own_blk (Kd.R_ne HO_7.out BK174.out (by decide)) | (rw [add_block]; exact Kd.own_blk (Kd.R_ne HO_7.out BK174.out (by decide))) | (show (Addr.add _ _).block ≠ _; rw [add_block]; exact Kd.own_blk (Kd.R_ne HO_7.out BK174.out (by decide))) | (dsimp only; exact Kd.own_blk (Kd.R_ne HO_7.out BK174.out (by decide)))) _).trans (hHeld.1)))))))))))))), ((cell_far (p := ⟨gb174, _, none⟩) (by first | exact Kd.own_blk (Kd.R_ne HO_7.out BK174.out (by decide)) | (rw [add_block]; exact Kd.own_blk (Kd.R_ne HO_7.out BK174.out (by decide))) | (show (Addr.add _ _).block ≠ _; rw [add_block]; exact Kd.own_blk (Kd.R_ne HO_7.out BK174.out (by decide))) | (dsimp only; exact Kd.own_blk (Kd.R_ne HO_7.out BK174.out (by decide)))) _).trans (((cell_far (p := ⟨gb174, _, none⟩) (by first | exact Kd.own_blk (Kd.R_ne HO_7.out BK174.out (by decide)) | (rw [add_block]; exact Kd.own_blk (Kd.R_ne HO_7.out BK174.out (by decide))) | (show (Addr.add _ _).block ≠ _; rw [add_block]; exact Kd.own_blk (Kd.R_ne HO_7.out BK174.out (by decide))) | (dsimp only; exact Kd.own_blk (Kd.R_ne HO_7.out BK174.out (by decide)))) _).trans (((cell_far (p := ⟨gb174, _, none⟩) (by first | exact Kd.own_blk (Kd.R_ne HO_7.out BK174.out (by decide)) | (rw [add_block]; exact Kd.own_blk (Kd.R_ne HO_7.out BK174.out (by decide))) | (show (Addr.add _ _).block ≠ _; rw [add_block]; exact Kd.own_blk (Kd.R_ne HO_7.out BK174.out (by decide))) | (dsimp only; exact Kd.own_blk (Kd.R_ne HO_7.out BK174.out (by decide)))) _).trans (((cell_far (p := ⟨gb174, _, none⟩) (by first | exact Kd.own_blk (Kd.R_ne HO_7.out BK174.out (by decide)) | (rw [add_block]; exact Kd.own_blk (Kd.R_ne HO_7.out BK174.out (by decide))) | (show (Addr.add _ _).block ≠ _; rw [add_block]; exact Kd.own_blk (Kd.R_ne HO_7.out BK174.out (by decide))) | (dsimp only; exact Kd.own_blk (Kd.R_ne HO_7.out BK174.out (by decide)))) _).trans (((cell_far (p := ⟨gb174, _, none⟩) (by first | exact Kd.own_blk (Kd.R_ne HO_7.out BK174.out (by decide)) | (rw [add_block]; exact Kd.own_blk (Kd.R_ne HO_7.out BK174.out (by decide))) | (show (Addr.add _ _).block ≠ _; rw [add_block]; exact Kd.own_blk (Kd.R_ne HO_7.out BK174.out (by decide))) | (dsimp only; exact Kd.own_blk (Kd.R_ne HO_7.out BK174.out (by decide)))) _).trans (((cell_far (p := ⟨gb174, _, none⟩) (by first | exact Kd.own_blk (Kd.R_ne HO_7.out BK174.out (by decide)) | (rw [add_block]; exact Kd.own_blk (Kd.R_ne HO_7.out BK174.out (by decide))) | (show (Addr.add _ _).block ≠ _; rw [add_block]; exact Kd.own_blk (Kd.R_ne HO_7.out BK174.out (by decide))) | (dsimp only; exact Kd.own_blk (Kd.R_ne HO_7.out BK174.out (by decide)))) _).trans (((cell_far (p := ⟨gb174, _, none⟩) (by first | exact Kd.own_blk (Kd.R_ne HO_7.out BK174.out (by decide)) | (rw [add_block]; exact Kd.own_blk (Kd.R_ne HO_7.out BK174.out (by decide))) | (show (Addr.add _ _).block ≠ _; rw [add_block]; exact Kd.own_blk (Kd.R_ne HO_7.out BK174.out (by decide))) | (dsimp only; exact Kd.own_blk (Kd.R_ne HO_7.out BK174.out (by decide)))) _).trans (hHeld.2.1)))))))))))))), ((cell_far (p := ⟨gb174, _, none⟩) (by first | exact Kd.own_blk (Kd.R_ne HO_7.out BK174.out (by decide)) | (rw [add_block]; exact Kd.own_blk (Kd.R_ne HO_7.out BK174.out (by decide))) | (show (Addr.add _ _).block ≠ _; rw [add_block]; exact Kd.own_blk (Kd.R_ne HO_7.out BK174.out (by decide))) | (dsimp only; exact Kd.own_blk (Kd.R_ne HO_7.out BK174.out (by decide)))) _).trans (((cell_far (p := ⟨gb174, _, none⟩) (by first | exact Kd.own_blk (Kd.R_ne HO_7.out BK174.out (by decide)) | (rw [add_block]; exact Kd.own_blk (Kd.R_ne HO_7.out BK174.out (by decide))) | (show (Addr.add _ _).block ≠ _; rw [add_block]; exact Kd.own_blk (Kd.R_ne HO_7.out BK174.out (by decide))) | (dsimp only; exact Kd.own_blk (Kd.R_ne HO_7.out BK174.out (by decide)))) _).trans (((cell_far (p := ⟨gb174, _, none⟩) (by first | exact Kd.own_blk (Kd.R_ne HO_7.out BK174.out (by decide)) | (rw [add_block]; exact Kd.own_blk (Kd.R_ne HO_7.out BK174.out (by decide))) | (show (Addr.add _ _).block ≠ _; rw [add_block]; exact Kd.own_blk (Kd.R_ne HO_7.out BK174.out (by decide))) | (dsimp only; exact Kd.own_blk (Kd.R_ne HO_7.out BK174.out (by decide)))) _).trans (((cell_far (p := ⟨gb174, _, none⟩) (by first | exact Kd.own_blk (Kd.R_ne HO_7.out BK174.out (by decide)) | (rw [add_block]; exact Kd.own_blk (Kd.R_ne HO_7.out BK174.out (by decide))) | (show (Addr.add _ _).block ≠ _; rw [add_block]; exact Kd.own_blk (Kd.R_ne HO_7.out BK174.out (by decide))) | (dsimp only; exact Kd.own_blk (Kd.R_ne HO_7.out BK174.out (by decide)))) _).trans (((cell_far (p := ⟨gb174, _, none⟩) (by first | exact Kd.own_blk (Kd.R_ne HO_7.out BK174.out (by decide)) | (rw [add_block]; exact Kd.own_blk (Kd.R_ne HO_7.out BK174.out (by decide))) | (show (Addr.add _ _).block ≠ _; rw [add_block]; exact Kd.own_blk (Kd.R_ne HO_7.out BK174.out (by decide))) | (dsimp only; exact Kd.own_blk (Kd.R_ne HO_7.out BK174.out (by decide)))) _).trans (((cell_far (p := ⟨gb174, _, none⟩) (by first | exact Kd.own_blk (Kd.R_ne HO_7.out BK174.out (by decide)) | (rw [add_block]; exact Kd.own_blk (Kd.R_ne HO_7.out BK174.out (by decide))) | (show (Addr.add _ _).block ≠ _; rw [add_block]; exact Kd.own_blk (Kd.R_ne HO_7.out BK174.out (by decide))) | (dsimp only; exact Kd.own_blk (Kd.R_ne HO_7.out BK174.out (by decide)))) _).trans (((cell_far (p := ⟨gb174, _, none⟩) (by first | exact Kd.own_blk (Kd.R_ne HO_7.out BK174.out (by decide)) | (rw [add_block]; exact Kd.own_blk (Kd.R_ne HO_7.out BK174.out (by decide))) | (show (Addr.add _ _).block ≠ _; rw [add_block]; exact Kd.own_blk (Kd.R_ne HO_7.out BK174.out (by decide))) | (dsimp only; exact Kd.own_blk (Kd.R_ne HO_7.out BK174.out (by decide)))) _).trans (hHeld.2.2))))))))))))))⟩ (fun hHeld => ?_)
        clear hK K
        refine done_ (done_of HT_.out (by kernel_rfl)) ?_
        have hnb31 := NB174_159.out
        have hnc31 := NB159_174.out
        have hnb32 := NB174_161.out
        have hnc32 := NB161_174.out
        have hcz33_0 : w23.cell? ⟨gb174, 0, none⟩ = some (.string (⟨#[]⟩ : ByteArray)) := (blk_cell BK174.out 0).trans rfl
        have hcz33_1 : w23.cell? ⟨gb174, 1, none⟩ = some (.string (⟨#[]⟩ : ByteArray)) := (blk_cell BK174.out 1).trans rfl
        have hcz33_2 : w23.cell? ⟨gb174, 2, none⟩ = some (.int .i64 0) := (blk_cell BK174.out 2).trans rfl
        have hcz33_3 : w23.cell? ⟨gb174, 3, none⟩ = some (.string (⟨#[]⟩ : ByteArray)) := (blk_cell BK174.out 3).trans rfl
        have hcz33_4 : w23.cell? ⟨gb174, 4, none⟩ = some (.string (⟨#[]⟩ : ByteArray)) := (blk_cell BK174.out 4).trans rfl
        have hcz33_5 : w23.cell? ⟨gb174, 5, none⟩ = some (.int .i64 0) := (blk_cell BK174.out 5).trans rfl
        have hcz33_6 : w23.cell? ⟨gb174, 6, none⟩ = some (.string (⟨#[]⟩ : ByteArray)) := (blk_cell BK174.out 6).trans rfl
        have hfz33_0 := blk_frozen BK174.out 0
        have hfz33_1 := blk_frozen BK174.out 1
        have hfz33_2 := blk_frozen BK174.out 2
        have hfz33_3 := blk_frozen BK174.out 3
        have hfz33_4 := blk_frozen BK174.out 4
        have hfz33_5 := blk_frozen BK174.out 5
        have hfz33_6 := blk_frozen BK174.out 6
        have hnb34 := NB161_159.out
        have hnc34 := NB159_161.out
        have hcz35_0 : w23.cell? ⟨gb161, 0, none⟩ = some (.int .i64 0) := (blk_cell BK161.out 0).trans rfl
        have hcz35_1 : w23.cell? ⟨gb161, 1, none⟩ = some (u162001) := (blk_cell BK161.out 1).trans rfl
        have hfz35_0 := blk_frozen BK161.out 0
        have hfz35_1 := blk_frozen BK161.out 1
        try go_wp2_with (first | ((with_reducible refine gate_builtin (b := .append) (xs := #[.tmp 50, .tmp 52]) rfl ?_); at_builtin; refine Kd.R_append k77 (w0 := w) w.heap.size rfl (.tmp 50) (.tmp 52) 24 77 (.agg #[(.string ⟨#[]⟩), (.string ⟨#[]⟩), (.int .i64 0), (.string ⟨#[]⟩), (.string ⟨#[]⟩), (.int .i64 0), (.string ⟨#[]⟩)]) 96 rfl Tryz.underlying24 info77 rfl (by decide) (by omega) u162001 x162001_1 (⟨rdOf ByteArray.empty t162 x8_1, (⟨t167, t168, t169⟩ : S74), (⟨t171, t172, t173⟩ : S74)⟩ : S77) [.string (rdOf ByteArray.empty t162 x8_1), .string t167, .int .i64 t168, .string t169, .string t171, .int .i64 t172, .string t173] (fun k_ => k_ ≠ gb174) (fun _ => False) rfl (by first | (go_simp; done) | (go_simp; rfl)) ?aP (fun _ hk => hk.elim) ?aF ?aO ?aB ?aS ?aL ?_; (case aP => exact k77_mkM _ _ _ (⟨rdOf ByteArray.empty t162 x8_1, (⟨t167, t168, t169⟩ : S74), (⟨t171, t172, t173⟩ : S74)⟩ : S77)); (case aB => exact (by repeat (first | (with_reducible first | exact HB.out | apply zA | apply zN | apply zD | refine below_set ?_ GE159.out | refine below_set ?_ GE161.out | refine below_set ?_ GE174.out) | exact HB.out))); (case aF => exact (fun k_ hk => Kd.freshB (g := gb174) (o := .cells #[.string (rdOf ByteArray.empty t162 x8_1), .string t167, .int .i64 t168, .string t169, .string t171, .int .i64 t172, .string t173] 77 (0, 0)) (by (with_reducible repeat (first | refine zM ?_ _ | refine zP ?_ | refine zQ ?_ _)); refine blk_put (cs := #[.string (rdOf ByteArray.empty t162 x8_1), .string t167, .int .i64 t168, .string t169, .string t171, .int .i64 t172, .string (⟨#[]⟩ : ByteArray)]) ?_ 6 _ rfl; (with_reducible repeat (first | refine zM ?_ _ | refine zP ?_ | refine zQ ?_ _)); refine blk_put (cs := #[.string (rdOf ByteArray.empty t162 x8_1), .string t167, .int .i64 t168, .string t169, .string t171, .int .i64 0, .string (⟨#[]⟩ : ByteArray)]) ?_ 5 _ rfl; (with_reducible repeat (first | refine zM ?_ _ | refine zP ?_ | refine zQ ?_ _)); refine blk_put (cs := #[.string (rdOf ByteArray.empty t162 x8_1), .string t167, .int .i64 t168, .string t169, .string (⟨#[]⟩ : ByteArray), .int .i64 0, .string (⟨#[]⟩ : ByteArray)]) ?_ 4 _ rfl; (with_reducible repeat (first | refine zM ?_ _ | refine zP ?_ | refine zQ ?_ _)); refine blk_put (cs := #[.string (rdOf ByteArray.empty t162 x8_1), .string t167, .int .i64 t168, .string (⟨#[]⟩ : ByteArray), .string (⟨#[]⟩ : ByteArray), .int .i64 0, .string (⟨#[]⟩ : ByteArray)]) ?_ 3 _ rfl; (with_reducible repeat (first | refine zM ?_ _ | refine zP ?_ | refine zQ ?_ _)); refine blk_put (cs := #[.string (rdOf ByteArray.empty t162 x8_1), .string t167, .int .i64 0, .string (⟨#[]⟩ : ByteArray), .string (⟨#[]⟩ : ByteArray), .int .i64 0, .string (⟨#[]⟩ : ByteArray)]) ?_ 2 _ rfl; (with_reducible repeat (first | refine zM ?_ _ | refine zP ?_ | refine zQ ?_ _)); refine blk_put (cs := #[.string (rdOf ByteArray.empty t162 x8_1), .string (⟨#[]⟩ : ByteArray), .int .i64 0, .string (⟨#[]⟩ : ByteArray), .string (⟨#[]⟩ : ByteArray), .int .i64 0, .string (⟨#[]⟩ : ByteArray)]) ?_ 1 _ rfl; (with_reducible repeat (first | refine zM ?_ _ | refine zP ?_ | refine zQ ?_ _)); refine blk_put (cs := #[.string (⟨#[]⟩ : ByteArray), .string (⟨#[]⟩ : ByteArray), .int .i64 0, .string (⟨#[]⟩ : ByteArray), .string (⟨#[]⟩ : ByteArray), .int .i64 0, .string (⟨#[]⟩ : ByteArray)]) ?_ 0 _ rfl; (with_reducible repeat (first | refine zM ?_ _ | refine zP ?_ | refine zQ ?_ _)); exact BK174.out) k_ hk)); (case aO => exact (by (with_reducible repeat (first | apply zR | apply zV | apply zW)); exact Kd.R_mono (Kd.R_far (p := ⟨gb174, 6, none⟩) (Kd.R_far (p := ⟨gb174, 5, none⟩) (Kd.R_far (p := ⟨gb174, 4, none⟩) (Kd.R_far (p := ⟨gb174, 3, none⟩) (Kd.R_far (p := ⟨gb174, 2, none⟩) (Kd.R_far (p := ⟨gb174, 1, none⟩) (Kd.R_far (p := ⟨gb174, 0, none⟩) (Kd.R_mono HO_162001.out (fun k_ hk => (⟨hk, hk⟩ : _ ∧ k_ ≠ gb174))) (fun _ hk => hk.2) (.string (rdOf ByteArray.empty t162 x8_1))) (fun _ hk => hk.2) (.string t167)) (fun _ hk => hk.2) (.int .i64 t168)) (fun _ hk => hk.2) (.string t169)) (fun _ hk => hk.2) (.string t171)) (fun _ hk => hk.2) (.int .i64 t172)) (fun _ hk => hk.2) (.string t173)) (fun _ hk => hk.1))); (case aS => exact (below_size (by repeat (first | (with_reducible first | exact HB.out | apply zA | apply zN | apply zD | refine below_set ?_ GE159.out | refine below_set ?_ GE161.out | refine below_set ?_ GE174.out) | exact HB.out)))); (case aL => have := LMc17.out; omega); intro v176 w36 ho hb hg hat; rw [← Ny175.out] at ho; have n0_ := zK (Kd.R_over' (by (with_reducible repeat (first | apply zR | apply zV | apply zW)); exact (Kd.R_mono (Kd.R_far (p := ⟨gb174, 6, none⟩) (Kd.R_far (p := ⟨gb174, 5, none⟩) (Kd.R_far (p := ⟨gb174, 4, none⟩) (Kd.R_far (p := ⟨gb174, 3, none⟩) (Kd.R_far (p := ⟨gb174, 2, none⟩) (Kd.R_far (p := ⟨gb174, 1, none⟩) (Kd.R_far (p := ⟨gb174, 0, none⟩) (Kd.R_types HO_7.out BK174.out (by decide)) (fun _ hk => hk.2) (.string (rdOf ByteArray.empty t162 x8_1))) (fun _ hk => hk.2) (.string t167)) (fun _ hk => hk.2) (.int .i64 t168)) (fun _ hk => hk.2) (.string t169)) (fun _ hk => hk.2) (.string t171)) (fun _ hk => hk.2) (.int .i64 t172)) (fun _ hk => hk.2) (.string t173)) (fun _ h_ => h_.1))) (Kd.R_typed (by (with_reducible repeat (first | apply zR | apply zV | apply zW)); exact (Kd.R_mono (Kd.R_far (p := ⟨gb174, 6, none⟩) (Kd.R_far (p := ⟨gb174, 5, none⟩) (Kd.R_far (p := ⟨gb174, 4, none⟩) (Kd.R_far (p := ⟨gb174, 3, none⟩) (Kd.R_far (p := ⟨gb174, 2, none⟩) (Kd.R_far (p := ⟨gb174, 1, none⟩) (Kd.R_far (p := ⟨gb174, 0, none⟩) (Kd.R_mono HO_162001.out (fun k_ hk => (⟨hk, hk⟩ : _ ∧ k_ ≠ gb174))) (fun _ hk => hk.2) (.string (rdOf ByteArray.empty t162 x8_1))) (fun _ hk => hk.2) (.string t167)) (fun _ hk => hk.2) (.int .i64 t168)) (fun _ hk => hk.2) (.string t169)) (fun _ hk => hk.2) (.string t171)) (fun _ hk => hk.2) (.int .i64 t172)) (fun _ hk => hk.2) (.string t173)) (fun _ h_ => h_.1)))) (by decide) hg); have n1_ := zK (blk_grown (g := gb159) (o := .cells #[.int .i64 0, .slice none 0 0] 26 (0, 0)) (by (with_reducible repeat (first | refine zM ?_ _ | refine zP ?_ | refine zQ ?_ _)); refine blk_far ?_ NB159_174.out _; (with_reducible repeat (first | refine zM ?_ _ | refine zP ?_ | refine zQ ?_ _)); refine blk_far ?_ NB159_174.out _; (with_reducible repeat (first | refine zM ?_ _ | refine zP ?_ | refine zQ ?_ _)); refine blk_far ?_ NB159_174.out _; (with_reducible repeat (first | refine zM ?_ _ | refine zP ?_ | refine zQ ?_ _)); refine blk_far ?_ NB159_174.out _; (with_reducible repeat (first | refine zM ?_ _ | refine zP ?_ | refine zQ ?_ _)); refine blk_far ?_ NB159_174.out _; (with_reducible repeat (first | refine zM ?_ _ | refine zP ?_ | refine zQ ?_ _)); refine blk_far ?_ NB159_174.out _; (with_reducible repeat (first | refine zM ?_ _ | refine zP ?_ | refine zQ ?_ _)); refine blk_far ?_ NB159_174.out _; (with_reducible repeat (first | refine zM ?_ _ | refine zP ?_ | refine zQ ?_ _)); exact BK159.out) hg (Kd.R_ne HO_162001.out BK159.out (by decide))); have n2_ := zK (blk_grown (g := gb161) (o := .cells #[.int .i64 0, u162001] 26 (0, 0)) (by (with_reducible repeat (first | refine zM ?_ _ | refine zP ?_ | refine zQ ?_ _)); refine blk_far ?_ NB161_174.out _; (with_reducible repeat (first | refine zM ?_ _ | refine zP ?_ | refine zQ ?_ _)); refine blk_far ?_ NB161_174.out _; (with_reducible repeat (first | refine zM ?_ _ | refine zP ?_ | refine zQ ?_ _)); refine blk_far ?_ NB161_174.out _; (with_reducible repeat (first | refine zM ?_ _ | refine zP ?_ | refine zQ ?_ _)); refine blk_far ?_ NB161_174.out _; (with_reducible repeat (first | refine zM ?_ _ | refine zP ?_ | refine zQ ?_ _)); refine blk_far ?_ NB161_174.out _; (with_reducible repeat (first | refine zM ?_ _ | refine zP ?_ | refine zQ ?_ _)); refine blk_far ?_ NB161_174.out _; (with_reducible repeat (first | refine zM ?_ _ | refine zP ?_ | refine zQ ?_ _)); refine blk_far ?_ NB161_174.out _; (with_reducible repeat (first | refine zM ?_ _ | refine zP ?_ | refine zQ ?_ _)); exact BK161.out) hg (Kd.R_ne HO_162001.out BK161.out (by decide))); have n3_ := zK (blk_grown (g := gb174) (o := .cells #[.string (rdOf ByteArray.empty t162 x8_1), .string t167, .int .i64 t168, .string t169, .string t171, .int .i64 t172, .string t173] 77 (0, 0)) (by (with_reducible repeat (first | refine zM ?_ _ | refine zP ?_ | refine zQ ?_ _)); refine blk_put (cs := #[.string (rdOf ByteArray.empty t162 x8_1), .string t167, .int .i64 t168, .string t169, .string t171, .int .i64 t172, .string (⟨#[]⟩ : ByteArray)]) ?_ 6 _ rfl; (with_reducible repeat (first | refine zM ?_ _ | refine zP ?_ | refine zQ ?_ _)); refine blk_put (cs := #[.string (rdOf ByteArray.empty t162 x8_1), .string t167, .int .i64 t168, .string t169, .string t171, .int .i64 0, .string (⟨#[]⟩ : ByteArray)]) ?_ 5 _ rfl; (with_reducible repeat (first | refine zM ?_ _ | refine zP ?_ | refine zQ ?_ _)); refine blk_put (cs := #[.string (rdOf ByteArray.empty t162 x8_1), .string t167, .int .i64 t168, .string t169, .string (⟨#[]⟩ : ByteArray), .int .i64 0, .string (⟨#[]⟩ : ByteArray)]) ?_ 4 _ rfl; (with_reducible repeat (first | refine zM ?_ _ | refine zP ?_ | refine zQ ?_ _)); refine blk_put (cs := #[.string (rdOf ByteArray.empty t162 x8_1), .string t167, .int .i64 t168, .string (⟨#[]⟩ : ByteArray), .string (⟨#[]⟩ : ByteArray), .int .i64 0, .string (⟨#[]⟩ : ByteArray)]) ?_ 3 _ rfl; (with_reducible repeat (first | refine zM ?_ _ | refine zP ?_ | refine zQ ?_ _)); refine blk_put (cs := #[.string (rdOf ByteArray.empty t162 x8_1), .string t167, .int .i64 0, .string (⟨#[]⟩ : ByteArray), .string (⟨#[]⟩ : ByteArray), .int .i64 0, .string (⟨#[]⟩ : ByteArray)]) ?_ 2 _ rfl; (with_reducible repeat (first | refine zM ?_ _ | refine zP ?_ | refine zQ ?_ _)); refine blk_put (cs := #[.string (rdOf ByteArray.empty t162 x8_1), .string (⟨#[]⟩ : ByteArray), .int .i64 0, .string (⟨#[]⟩ : ByteArray), .string (⟨#[]⟩ : ByteArray), .int .i64 0, .string (⟨#[]⟩ : ByteArray)]) ?_ 1 _ rfl; (with_reducible repeat (first | refine zM ?_ _ | refine zP ?_ | refine zQ ?_ _)); refine blk_put (cs := #[.string (⟨#[]⟩ : ByteArray), .string (⟨#[]⟩ : ByteArray), .int .i64 0, .string (⟨#[]⟩ : ByteArray), .string (⟨#[]⟩ : ByteArray), .int .i64 0, .string (⟨#[]⟩ : ByteArray)]) ?_ 0 _ rfl; (with_reducible repeat (first | refine zM ?_ _ | refine zP ?_ | refine zQ ?_ _)); exact BK174.out) hg (Kd.R_away HO_162001.out (fun _ hk => hk))); have n4_ := zK (hb); have n5_ := zK (ho); clear HO_7; clear BK159; clear BK161; clear BK174; clear HB; clear HO_162001; have HO_7 := n0_; have BK159 := n1_; have BK161 := n2_; have BK174 := n3_; have HB := n4_; have HO177 := n5_; clear n0_ n1_ n2_ n3_ n4_ n5_; clear ho hb hg hat; obtain ⟨Ao37, co37, eo37⟩ := Kd.R_slice HO177.out; subst eo37; have hcz38_0 : w36.cell? ⟨gb161, 0, none⟩ = some (.int .i64 0) := (blk_cell BK161.out 0).trans rfl; have hcz38_1 : w36.cell? ⟨gb161, 1, none⟩ = some (u162001) := (blk_cell BK161.out 1).trans rfl; have hfz38_0 := blk_frozen BK161.out 0; have hfz38_1 := blk_frozen BK161.out 1))
        go_roundg k1
        case measure => have := HK1.out; omega
        case rel => exact ⟨(wrap64 (x8_1 + 1)), (y175), (.slice Ao37 y175.length co37), (by first | rfl | (simp; done) | (simp [*]; done)), H', ⟨by have := HK1.out; omega⟩, ⟨by (with_reducible repeat (first | apply zR | apply zV | apply zW)); exact Kd.R_mono (Kd.R_far (p := ⟨gb161, 1, none⟩) (Kd.R_types HO_7.out BK161.out (by decide)) (fun _ hk => hk.2) (.slice Ao37 y175.length co37)) (fun _ hk => trivial)⟩, ⟨by (with_reducible repeat (first | apply zR | apply zV | apply zW)); exact Kd.R_mono (Kd.R_far (p := ⟨gb161, 1, none⟩) (Kd.R_types HO177.out BK161.out (by decide)) (fun _ hk => hk.2) (.slice Ao37 y175.length co37)) (fun _ hk => trivial)⟩, ⟨by (with_reducible repeat (first | refine zM ?_ _ | refine zP ?_ | refine zQ ?_ _)); refine blk_far ?_ NB159_161.out _; (with_reducible repeat (first | refine zM ?_ _ | refine zP ?_ | refine zQ ?_ _)); exact BK159.out⟩, ⟨by (with_reducible repeat (first | refine zM ?_ _ | refine zP ?_ | refine zQ ?_ _)); refine blk_put (cs := #[.int .i64 0, u162001]) ?_ 1 _ rfl; (with_reducible repeat (first | refine zM ?_ _ | refine zP ?_ | refine zQ ?_ _)); exact BK161.out⟩, ⟨by repeat (first | (with_reducible first | exact HB.out | apply zA | apply zN | apply zD | refine below_set ?_ GE159.out | refine below_set ?_ GE161.out | refine below_set ?_ GE174.out) | exact HB.out)⟩⟩
       ·
        rw [if_neg c17] at H
        exact absurd H (by simp)
      ·
       rw [if_neg c16] at H
       have c16b0 : (!(t167.toList == t171.toList) || (!(t168 == t172) || (!(t169.toList == t173.toList)))) = false := by simpa using c16
       clear c16
       have H' := zK H
       clear H
       obtain ⟨Ao39, co39, eo39⟩ := Kd.R_slice HO_7.out
       subst eo39
       try go_wp2
       have n0_ := zK (zW HO_7.out)
       have n1_ := zK (zW HO_162001.out)
       have n2_ := zK (zP BK159.out)
       have n3_ := zK (zP BK161.out)
       have n4_ := zK (zD HB.out)
       clear HO_7
       clear HO_162001
       clear BK159
       clear BK161
       clear HB
       have HO_7 := n0_
       have HO_162001 := n1_
       have BK159 := n2_
       have BK161 := n3_
       have HB := n4_
       clear n0_ n1_ n2_ n3_ n4_
       have p165 : 0 ≤ (x8_1 : Int) := zX (by first | (with_reducible assumption) | assumption)
       have q165 : x8_1 < (t162.length : Int) := zX (by first | (with_reducible assumption) | assumption)
       obtain ⟨ad165, e165, hx165_0⟩ := Kd.at_string (Kd.R_reads' HO_7.out).2.2 x8_1 p165 q165
       cases e165
       replace p165 := eq_true p165
       replace q165 := eq_true q165
       have p166 : 0 ≤ (x8_1 : Int) := zX (by first | (with_reducible assumption) | assumption)
       have q166 : x8_1 < (t162.length : Int) := zX (by first | (with_reducible assumption) | assumption)
       obtain ⟨ad166, e166, hx166_0⟩ := Kd.at_string (Kd.R_reads' HO_7.out).2.2 x8_1 p166 q166
       obtain rfl : ad165 = ad166 := (by injection e166)
       replace p166 := eq_true p166
       replace q166 := eq_true q166
       have p170 : 0 ≤ (x8_1 : Int) := zX (by first | (with_reducible assumption) | assumption)
       have q170 : x8_1 < (t162.length : Int) := zX (by first | (with_reducible assumption) | assumption)
       obtain ⟨ad170, e170, hx170_0⟩ := Kd.at_string (Kd.R_reads' HO_7.out).2.2 x8_1 p170 q170
       obtain rfl : ad165 = ad170 := (by injection e170)
       replace p170 := eq_true p170
       replace q170 := eq_true q170
       refine start_ (n := 19) (S := fun w' => w'.cell? (ad165.add (x8_1).toNat) = some (.string (rdOf ByteArray.empty t162 x8_1)) ∧ w'.cell? (ad165.add (x8_1).toNat) = some (.string (rdOf ByteArray.empty t162 x8_1)) ∧ w'.cell? (ad165.add (x8_1).toNat) = some (.string (rdOf ByteArray.empty t162 x8_1))) (ds := []) #[zF,zF,zF,zF,zF,zF,zF,zF,zF,zF,zF,zF,zF,zF,zF,zF,zF,zF,zF] (by kernel_rfl) rfl rfl ⟨hx165_0, hx166_0, hx170_0⟩ (fun hHeld => ?_); refine with_tabW spec_DiffFiles.tab9 spec_DiffFiles.bits9 (fun HT_ HW_ => ?_)
       generalize wr.drew = w40 at HO_7 HO_162001 BK159 BK161 HB hx165_0 hx166_0 hx170_0 hHeld ⊢
       refine pure_ (i := 0) (N := some 27) (v := ?_) (a' := ?_) #[zB,zF,zF,zF,zF,zF,zF,zF,zF,zF,zF,zF,zF,zF,zF,zF,zF,zF,zF] rfl rfl (any_of HT_.out (by kernel_rfl)) (fun _ _ _ h => h) (Or.inl ⟨by rfl, ?_⟩) ?_ ?_
       rotate_left
       ·
        intro w'
        go_simp
        with_reducible rfl
       rotate_left
       ·
        simp only [Act.put, zS, zT, zU, i64_w, i32_w]
        rfl
       refine pure_ (i := 1) (N := some 28) (v := ?_) (a' := ?_) #[zB,zB,zF,zF,zF,zF,zF,zF,zF,zF,zF,zF,zF,zF,zF,zF,zF,zF,zF] rfl rfl (any_of HT_.out (by kernel_rfl)) (fun _ _ _ h => h) (Or.inl ⟨by rfl, ?_⟩) ?_ ?_
       rotate_left
       ·
        intro w'
        go_simp
        with_reducible rfl
       rotate_left
       ·
        simp only [Act.put, zS, zT, zU, i64_w, i32_w]
        rfl
       refine pure_ (i := 2) (N := some 29) (v := ?_) (a' := ?_) #[zB,zB,zB,zF,zF,zF,zF,zF,zF,zF,zF,zF,zF,zF,zF,zF,zF,zF,zF] rfl rfl (any_of HT_.out (by kernel_rfl)) (fun _ _ _ h => h) (Or.inl ⟨by rfl, ?_⟩) ?_ ?_
       rotate_left
       ·
        intro w'
        go_simp
        with_reducible rfl
       rotate_left
       ·
        simp only [Act.put, zS, zT, zU, i64_w, i32_w]
        rfl
       refine pure_ (i := 4) (N := some 31) (v := ?_) (a' := ?_) #[zB,zB,zB,zF,zB,zF,zF,zF,zF,zF,zF,zF,zF,zF,zF,zF,zF,zF,zF] rfl rfl (any_of HT_.out (by kernel_rfl)) (fun _ _ _ h => h) (Or.inl ⟨by rfl, ?_⟩) ?_ ?_
       rotate_left
       ·
        intro w'
        go_simp
        with_reducible rfl
       rotate_left
       ·
        simp only [Act.put, zS, zT, zU, i64_w, i32_w]
        rfl
       refine pure_ (i := 5) (N := some 32) (v := ?_) (a' := ?_) #[zB,zB,zB,zF,zB,zB,zF,zF,zF,zF,zF,zF,zF,zF,zF,zF,zF,zF,zF] rfl rfl (any_of HT_.out (by kernel_rfl)) (fun _ _ _ h => h) (Or.inl ⟨by rfl, ?_⟩) ?_ ?_
       rotate_left
       ·
        intro w'
        go_simp
        with_reducible rfl
       rotate_left
       ·
        simp only [Act.put, zS, zT, zU, i64_w, i32_w]
        rfl
       refine pure_ (i := 6) (N := some 33) (v := ?_) (a' := ?_) #[zB,zB,zB,zF,zB,zB,zB,zF,zF,zF,zF,zF,zF,zF,zF,zF,zF,zF,zF] rfl rfl (any_of HT_.out (by kernel_rfl)) (fun _ _ _ h => h) (Or.inl ⟨by rfl, ?_⟩) ?_ ?_
       rotate_left
       ·
        intro w'
        go_simp
        with_reducible rfl
       rotate_left
       ·
        simp only [Act.put, zS, zT, zU, i64_w, i32_w]
        rfl
       refine pure_ (i := 7) (N := some 34) (v := ?_) (a' := ?_) #[zB,zB,zB,zF,zB,zB,zB,zB,zF,zF,zF,zF,zF,zF,zF,zF,zF,zF,zF] rfl rfl (any_of HT_.out (by kernel_rfl)) (fun _ _ _ h => h) (Or.inl ⟨by rfl, ?_⟩) ?_ ?_
       rotate_left
       ·
        intro w'
        go_simp
        with_reducible rfl
       rotate_left
       ·
        simp only [Act.put, zS, zT, zU, i64_w, i32_w]
        rfl
       refine pure_ (i := 10) (N := some 37) (v := ?_) (a' := ?_) #[zB,zB,zB,zF,zB,zB,zB,zB,zF,zF,zB,zF,zF,zF,zF,zF,zF,zF,zF] rfl rfl (any_of HT_.out (by kernel_rfl)) (fun _ _ _ h => h) (Or.inl ⟨by rfl, ?_⟩) ?_ ?_
       rotate_left
       ·
        intro w'
        go_simp
        with_reducible rfl
       rotate_left
       ·
        simp only [Act.put, zS, zT, zU, i64_w, i32_w]
        rfl
       refine pure_ (i := 11) (N := some 38) (v := ?_) (a' := ?_) #[zB,zB,zB,zF,zB,zB,zB,zB,zF,zF,zB,zB,zF,zF,zF,zF,zF,zF,zF] rfl rfl (any_of HT_.out (by kernel_rfl)) (fun _ _ _ h => h) (Or.inl ⟨by rfl, ?_⟩) ?_ ?_
       rotate_left
       ·
        intro w'
        go_simp
        with_reducible rfl
       rotate_left
       ·
        simp only [Act.put, zS, zT, zU, i64_w, i32_w]
        rfl
       refine pure_ (i := 12) (N := some 39) (v := ?_) (a' := ?_) #[zB,zB,zB,zF,zB,zB,zB,zB,zF,zF,zB,zB,zB,zF,zF,zF,zF,zF,zF] rfl rfl (any_of HT_.out (by kernel_rfl)) (fun _ _ _ h => h) (Or.inl ⟨by rfl, ?_⟩) ?_ ?_
       rotate_left
       ·
        intro w'
        go_simp
        with_reducible rfl
       rotate_left
       ·
        simp only [Act.put, zS, zT, zU, i64_w, i32_w]
        rfl
       refine pure_ (i := 13) (N := some 40) (v := ?_) (a' := ?_) #[zB,zB,zB,zF,zB,zB,zB,zB,zF,zF,zB,zB,zB,zB,zF,zF,zF,zF,zF] rfl rfl (any_of HT_.out (by kernel_rfl)) (fun _ _ _ h => h) (Or.inl ⟨by rfl, ?_⟩) ?_ ?_
       rotate_left
       ·
        intro w'
        go_simp
        with_reducible rfl
       rotate_left
       ·
        simp only [Act.put, zS, zT, zU, i64_w, i32_w]
        rfl
       refine take_ (i := 3) (N := some 30) (v := ?_) (a' := ?_) #[zB,zB,zB,zB,zB,zB,zB,zB,zF,zF,zB,zB,zB,zB,zF,zF,zF,zF,zF] rfl rfl (take_ofW HT_.out HW_.out (by kernel_rfl)) (fun _ _ _ h => h) (Or.inl ⟨by rfl, ?_⟩) hHeld ?_ ?_
       rotate_left
       ·
        rintro w' ⟨s0, s1, s2⟩
        go_simp
        with_reducible rfl
       rotate_left
       ·
        simp only [Act.put, zS, zT, zU, i64_w, i32_w]
        rfl
       refine take_ (i := 8) (N := some 35) (v := ?_) (a' := ?_) #[zB,zB,zB,zB,zB,zB,zB,zB,zB,zF,zB,zB,zB,zB,zF,zF,zF,zF,zF] rfl rfl (take_ofW HT_.out HW_.out (by kernel_rfl)) (fun _ _ _ h => h) (Or.inl ⟨by rfl, ?_⟩) hHeld ?_ ?_
       rotate_left
       ·
        rintro w' ⟨s0, s1, s2⟩
        go_simp
        with_reducible rfl
       rotate_left
       ·
        simp only [Act.put, zS, zT, zU, i64_w, i32_w]
        rfl
       refine take_ (i := 14) (N := some 41) (v := ?_) (a' := ?_) #[zB,zB,zB,zB,zB,zB,zB,zB,zB,zF,zB,zB,zB,zB,zB,zF,zF,zF,zF] rfl rfl (take_ofW HT_.out HW_.out (by kernel_rfl)) (fun _ _ _ h => h) (Or.inl ⟨by rfl, ?_⟩) hHeld ?_ ?_
       rotate_left
       ·
        rintro w' ⟨s0, s1, s2⟩
        go_simp
        with_reducible rfl
       rotate_left
       ·
        simp only [Act.put, zS, zT, zU, i64_w, i32_w]
        rfl
       refine join_ (σ := Nat) 1 #[zB,zB,zB,zB,zB,zB,zB,zB,zB,zB,zB,zB,zB,zB,zB,zB,zB,zB,zF] (fun s_ => [(36, .agg #[.string t167, .int .i64 t168, .string t169]), (42, .agg #[.string t171, .int .i64 t172, .string t173]), (9, .pointer (some ⟨s_, 0, none⟩)), (43, .agg #[.string (rdOf ByteArray.empty t162 x8_1), .string t167, .int .i64 t168, .string t169, .string t171, .int .i64 t172, .string t173])]) (fun s_ w' => (w'.cell? (ad165.add (x8_1).toNat) = some (.string (rdOf ByteArray.empty t162 x8_1)) ∧ w'.cell? (ad165.add (x8_1).toNat) = some (.string (rdOf ByteArray.empty t162 x8_1)) ∧ w'.cell? (ad165.add (x8_1).toNat) = some (.string (rdOf ByteArray.empty t162 x8_1))) ∧ (Kd.R k77 77 w' w.heap.size (fun k_ => k_ ≠ s_) u162001 x162001_1) ∧ (Kd.R Kd.string 9 w' w.heap.size (fun _ => True) (.slice (some ad165) t162.length co39) t162) ∧ (w'.heap[gb159]? = some (.cells #[.int .i64 0, .slice none 0 0] 26 (0, 0))) ∧ (w'.heap[gb161]? = some (.cells #[.int .i64 0, u162001] 26 (0, 0))) ∧ (w'.heap[s_]? = some (.cells #[.string (⟨#[]⟩ : ByteArray), .string (⟨#[]⟩ : ByteArray), .int .i64 0, .string (⟨#[]⟩ : ByteArray), .string (⟨#[]⟩ : ByteArray), .int .i64 0, .string (⟨#[]⟩ : ByteArray)] 77 (0, 0))) ∧ (w.heap.size ≤ s_) ∧ (w.heap.size ≤ s_) ∧ (gb159 ≠ s_) ∧ (s_ ≠ gb159) ∧ (gb161 ≠ s_) ∧ (s_ ≠ gb161) ∧ (Below w.heap.size w w')) ?_ ?_
       rotate_left
       ·
        intro hCont
        refine two_ (i := 9) (j := 17) (Ni := some 36) (Nj := some 9) #[zB,zB,zB,zB,zB,zB,zB,zB,zB,zB,zB,zB,zB,zB,zB,zF,zF,zF,zF] #[zB,zB,zB,zB,zB,zB,zB,zB,zB,zF,zB,zB,zB,zB,zB,zF,zF,zB,zF] rfl rfl rfl rfl (two_of HT_.out (by kernel_rfl)) (by decide) (by decide) (fun K hK => ?_) (fun K hK => ?_)
        ·
         skip
         refine goes_ Tryz.func47 (by kernel_rfl) rfl #[.slice A0 l0.length c0, .string (rdOf ByteArray.empty t162 x8_1)] (by rfl) rfl rfl (by (try simp only [List.map_toArray, List.map_cons, List.map_nil]); first | done | rfl | (simp only [List.length_drop, List.length_take]; rfl)) ?_
         with_reducible refine (spec_l7Find.calls k1 _ _ l0 (rdOf ByteArray.empty t162 x8_1) t167 t168 t169 _ ?side1 ?side2 A14.out).mono ?_
         (case side1 => repeat (first | exact (Kd.C_below HR0.out HB.out) | (with_reducible refine Kd.C_alloc ?_ _) | (with_reducible refine Kd.C_drewN ?_ _) | (with_reducible refine Kd.C_drew ?_)))
         (case side2 => exact HC0.out)
         rintro e w41 ⟨rfl, hb⟩
         have HS0_ := (hb.cell (zL _ _ (hHeld.1))).trans (hHeld.1)
         have HS1_ := (hb.cell (zL _ _ (hHeld.2.1))).trans (hHeld.2.1)
         have HS2_ := (hb.cell (zL _ _ (hHeld.2.2))).trans (hHeld.2.2)
         refine ⟨_, rfl, ?_⟩
         have n0_ := zK (Kd.R_below (by (with_reducible repeat (first | apply zR | apply zV | apply zW)); exact HO_7.out) hb)
         have n1_ := zK (Kd.R_below (by (with_reducible repeat (first | apply zR | apply zV | apply zW)); exact HO_162001.out) hb)
         have n2_ := zK (blk_below (g := gb159) (o := .cells #[.int .i64 0, .slice none 0 0] 26 (0, 0)) (by (with_reducible repeat (first | refine zM ?_ _ | refine zP ?_ | refine zQ ?_ _)); exact BK159.out) hb)
         have n3_ := zK (blk_below (g := gb161) (o := .cells #[.int .i64 0, u162001] 26 (0, 0)) (by (with_reducible repeat (first | refine zM ?_ _ | refine zP ?_ | refine zQ ?_ _)); exact BK161.out) hb)
         have n4_ := zK (below_step (by repeat (first | (with_reducible first | exact HB.out | apply zA | apply zN | apply zD | refine below_set ?_ GE159.out | refine below_set ?_ GE161.out) | exact HB.out)) hb)
         clear HO_7
         clear HO_162001
         clear BK159
         clear BK161
         clear HB
         have HO_7 := n0_
         have HO_162001 := n1_
         have BK159 := n2_
         have BK161 := n3_
         have HB := n4_
         clear n0_ n1_ n2_ n3_ n4_
         (try clear hb)
         (try clear hb2)
         (try clear hk)
         (try clear hi)
         refine hK.out _ _ ⟨HS0_, HS1_, HS2_⟩ (fun hHeld => ?_)
         clear hK K
         refine norm_ (a' := ?_) ?_ ?_
         rotate_left
         ·
          show Act.put _ (some 36) _ = _
          simp only [Act.put, zS, zT, zU, i64_w, i32_w]
          rfl
         refine two_ (i := 15) (j := 17) (Ni := some 42) (Nj := some 9) #[zB,zB,zB,zB,zB,zB,zB,zB,zB,zB,zB,zB,zB,zB,zB,zB,zF,zF,zF] #[zB,zB,zB,zB,zB,zB,zB,zB,zB,zB,zB,zB,zB,zB,zB,zF,zF,zB,zF] rfl rfl rfl rfl (two_of HT_.out (by kernel_rfl)) (by decide) (by decide) (fun K hK => ?_) (fun K hK => ?_)
         ·
          skip
          refine goes_ Tryz.func47 (by kernel_rfl) rfl #[.slice A1 l1.length c1, .string (rdOf ByteArray.empty t162 x8_1)] (by rfl) rfl rfl (by (try simp only [List.map_toArray, List.map_cons, List.map_nil]); first | done | rfl | (simp only [List.length_drop, List.length_take]; rfl)) ?_
          with_reducible refine (spec_l7Find.calls k1 _ _ l1 (rdOf ByteArray.empty t162 x8_1) t171 t172 t173 _ ?side1 ?side2 A15.out).mono ?_
          (case side1 => repeat (first | exact (Kd.C_below HR1.out HB.out) | (with_reducible refine Kd.C_alloc ?_ _) | (with_reducible refine Kd.C_drewN ?_ _) | (with_reducible refine Kd.C_drew ?_)))
          (case side2 => exact HC1.out)
          rintro e w42 ⟨rfl, hb⟩
          have HS0_ := (hb.cell (zL _ _ (hHeld.1))).trans (hHeld.1)
          have HS1_ := (hb.cell (zL _ _ (hHeld.2.1))).trans (hHeld.2.1)
          have HS2_ := (hb.cell (zL _ _ (hHeld.2.2))).trans (hHeld.2.2)
          refine ⟨_, rfl, ?_⟩
          have n0_ := zK (Kd.R_below (by (with_reducible repeat (first | apply zR | apply zV | apply zW)); exact HO_7.out) hb)
          have n1_ := zK (Kd.R_below (by (with_reducible repeat (first | apply zR | apply zV | apply zW)); exact HO_162001.out) hb)
          have n2_ := zK (blk_below (g := gb159) (o := .cells #[.int .i64 0, .slice none 0 0] 26 (0, 0)) (by (with_reducible repeat (first | refine zM ?_ _ | refine zP ?_ | refine zQ ?_ _)); exact BK159.out) hb)
          have n3_ := zK (blk_below (g := gb161) (o := .cells #[.int .i64 0, u162001] 26 (0, 0)) (by (with_reducible repeat (first | refine zM ?_ _ | refine zP ?_ | refine zQ ?_ _)); exact BK161.out) hb)
          have n4_ := zK (below_step (by repeat (first | (with_reducible first | exact HB.out | apply zA | apply zN | apply zD | refine below_set ?_ GE159.out | refine below_set ?_ GE161.out) | exact HB.out)) hb)
          clear HO_7
          clear HO_162001
          clear BK159
          clear BK161
          clear HB
          have HO_7 := n0_
          have HO_162001 := n1_
          have BK159 := n2_
          have BK161 := n3_
          have HB := n4_
          clear n0_ n1_ n2_ n3_ n4_
          (try clear hb)
          (try clear hb2)
          (try clear hk)
          (try clear hi)
          refine hK.out _ _ ⟨HS0_, HS1_, HS2_⟩ (fun hHeld => ?_)
          clear hK K
          refine norm_ (a' := ?_) ?_ ?_
          rotate_left
          ·
           show Act.put _ (some 42) _ = _
           simp only [Act.put, zS, zT, zU, i64_w, i32_w]
           rfl
          refine pure_ (i := 16) (N := some 43) (v := ?_) (a' := ?_) #[zB,zB,zB,zB,zB,zB,zB,zB,zB,zB,zB,zB,zB,zB,zB,zB,zB,zF,zF] rfl rfl (any_of HT_.out (by kernel_rfl)) (fun _ _ _ h => h) (Or.inl ⟨by rfl, ?_⟩) ?_ ?_
          rotate_left
          ·
           intro w'
           go_simp
           with_reducible rfl
          rotate_left
          ·
           simp only [Act.put, zS, zT, zU, i64_w, i32_w]
           rfl
          refine one_ (i := 17) (N := some 9) #[zB,zB,zB,zB,zB,zB,zB,zB,zB,zB,zB,zB,zB,zB,zB,zB,zB,zB,zF] rfl rfl (one_of HT_.out (by kernel_rfl)) (by decide) (fun K hK => ?_)
          refine box_step ?hg (N := 9) ?hd (cs := #[.string (⟨#[]⟩ : ByteArray), .string (⟨#[]⟩ : ByteArray), .int .i64 0, .string (⟨#[]⟩ : ByteArray), .string (⟨#[]⟩ : ByteArray), .int .i64 0, .string (⟨#[]⟩ : ByteArray)]) (t := 77) ?hr ?_; (case hd => rfl); (case hg => rfl); (case hr => first | (go_simp; done) | (go_simp; rfl))
          intro gb174 hg w43 hbox hb
          have HS0_ := (hb.cell (zL _ _ (hHeld.1))).trans (hHeld.1)
          have HS1_ := (hb.cell (zL _ _ (hHeld.2.1))).trans (hHeld.2.1)
          have HS2_ := (hb.cell (zL _ _ (hHeld.2.2))).trans (hHeld.2.2)
          have n0_ := zK (Kd.R_below (by (with_reducible repeat (first | apply zR | apply zV | apply zW)); exact HO_7.out) hb)
          have n1_ := zK (Kd.R_below (Kd.R_elderB (by (with_reducible repeat (first | apply zR | apply zV | apply zW)); exact HO_162001.out) gb174 (Nat.le_of_eq hg.symm)) hb)
          have n2_ := zK (blk_below (g := gb159) (o := .cells #[.int .i64 0, .slice none 0 0] 26 (0, 0)) (by (with_reducible repeat (first | refine zM ?_ _ | refine zP ?_ | refine zQ ?_ _)); exact BK159.out) hb)
          have n3_ := zK (blk_below (g := gb161) (o := .cells #[.int .i64 0, u162001] 26 (0, 0)) (by (with_reducible repeat (first | refine zM ?_ _ | refine zP ?_ | refine zQ ?_ _)); exact BK161.out) hb)
          have n4_ := zK (below_step (by repeat (first | (with_reducible first | exact HB.out | apply zA | apply zN | apply zD | refine below_set ?_ GE159.out | refine below_set ?_ GE161.out) | exact HB.out)) hb)
          have n5_ := zK (hbox)
          have n6_ := zK ((by rw [hg]; exact (below_size (by repeat (first | (with_reducible first | exact HB.out | apply zA | apply zN | apply zD | refine below_set ?_ GE159.out | refine below_set ?_ GE161.out) | exact HB.out))) : w.heap.size ≤ gb174))
          have n7_ := zK ((by rw [hg]; exact (below_size (by repeat (first | (with_reducible first | exact HB.out | apply zA | apply zN | apply zD | refine below_set ?_ GE159.out | refine below_set ?_ GE161.out) | exact HB.out))) : w.heap.size ≤ gb174))
          have n8_ := zK ((by rw [hg]; exact Nat.ne_of_lt (blk_lt (g := gb159) (o := .cells #[.int .i64 0, .slice none 0 0] 26 (0, 0)) (by (with_reducible repeat (first | refine zM ?_ _ | refine zP ?_ | refine zQ ?_ _)); exact BK159.out)) : gb159 ≠ gb174))
          have n9_ := zK ((by rw [hg]; exact Nat.ne_of_gt (blk_lt (g := gb159) (o := .cells #[.int .i64 0, .slice none 0 0] 26 (0, 0)) (by (with_reducible repeat (first | refine zM ?_ _ | refine zP ?_ | refine zQ ?_ _)); exact BK159.out)) : gb174 ≠ gb159))
          have n10_ := zK ((by rw [hg]; exact Nat.ne_of_lt (blk_lt (g := gb161) (o := .cells #[.int .i64 0, u162001] 26 (0, 0)) (by (with_reducible repeat (first | refine zM ?_ _ | refine zP ?_ | refine zQ ?_ _)); exact BK161.out)) : gb161 ≠ gb174))
          have n11_ := zK ((by rw [hg]; exact Nat.ne_of_gt (blk_lt (g := gb161) (o := .cells #[.int .i64 0, u162001] 26 (0, 0)) (by (with_reducible repeat (first | refine zM ?_ _ | refine zP ?_ | refine zQ ?_ _)); exact BK161.out)) : gb174 ≠ gb161))
          clear HO_7
          clear HO_162001
          clear BK159
          clear BK161
          clear HB
          have HO_7 := n0_
          have HO_162001 := n1_
          have BK159 := n2_
          have BK161 := n3_
          have HB := n4_
          have BK174 := n5_
          have GW174 := n6_
          have GE174 := n7_
          have NB159_174 := n8_
          have NB174_159 := n9_
          have NB161_174 := n10_
          have NB174_161 := n11_
          clear n0_ n1_ n2_ n3_ n4_ n5_ n6_ n7_ n8_ n9_ n10_ n11_
          clear hb hbox hg
          refine hK.out _ _ ⟨HS0_, HS1_, HS2_⟩ (fun hHeld => ?_)
          clear hK K
          refine norm_ (a' := ?_) ?_ ?_
          rotate_left
          ·
           show Act.put _ (some 9) _ = _
           simp only [Act.put, zS, zT, zU, i64_w, i32_w]
           rfl
          exact norm_ (by simp only [putAll, Act.put, zS, zT, zU]) (hCont (gb174) _ ⟨hHeld, (by (with_reducible repeat (first | apply zR | apply zV | apply zW)); exact Kd.R_mono HO_162001.out (fun _ hk => hk.2)), (by (with_reducible repeat (first | apply zR | apply zV | apply zW)); exact HO_7.out), (by (with_reducible repeat (first | refine zM ?_ _ | refine zP ?_ | refine zQ ?_ _)); exact BK159.out), (by (with_reducible repeat (first | refine zM ?_ _ | refine zP ?_ | refine zQ ?_ _)); exact BK161.out), (by (with_reducible repeat (first | refine zM ?_ _ | refine zP ?_ | refine zQ ?_ _)); exact BK174.out), GW174.out, GE174.out, NB159_174.out, NB174_159.out, NB161_174.out, NB174_161.out, (by repeat (first | (with_reducible first | exact HB.out | apply zA | apply zN | apply zD | refine below_set ?_ GE159.out | refine below_set ?_ GE161.out | refine below_set ?_ GE174.out) | exact HB.out))⟩)
         ·
          skip
          refine box_step ?hg (N := 9) ?hd (cs := #[.string (⟨#[]⟩ : ByteArray), .string (⟨#[]⟩ : ByteArray), .int .i64 0, .string (⟨#[]⟩ : ByteArray), .string (⟨#[]⟩ : ByteArray), .int .i64 0, .string (⟨#[]⟩ : ByteArray)]) (t := 77) ?hr ?_; (case hd => rfl); (case hg => rfl); (case hr => first | (go_simp; done) | (go_simp; rfl))
          intro gb174 hg w42 hbox hb
          have HS0_ := (hb.cell (zL _ _ (hHeld.1))).trans (hHeld.1)
          have HS1_ := (hb.cell (zL _ _ (hHeld.2.1))).trans (hHeld.2.1)
          have HS2_ := (hb.cell (zL _ _ (hHeld.2.2))).trans (hHeld.2.2)
          have n0_ := zK (Kd.R_below (by (with_reducible repeat (first | apply zR | apply zV | apply zW)); exact HO_7.out) hb)
          have n1_ := zK (Kd.R_below (Kd.R_elderB (by (with_reducible repeat (first | apply zR | apply zV | apply zW)); exact HO_162001.out) gb174 (Nat.le_of_eq hg.symm)) hb)
          have n2_ := zK (blk_below (g := gb159) (o := .cells #[.int .i64 0, .slice none 0 0] 26 (0, 0)) (by (with_reducible repeat (first | refine zM ?_ _ | refine zP ?_ | refine zQ ?_ _)); exact BK159.out) hb)
          have n3_ := zK (blk_below (g := gb161) (o := .cells #[.int .i64 0, u162001] 26 (0, 0)) (by (with_reducible repeat (first | refine zM ?_ _ | refine zP ?_ | refine zQ ?_ _)); exact BK161.out) hb)
          have n4_ := zK (below_step (by repeat (first | (with_reducible first | exact HB.out | apply zA | apply zN | apply zD | refine below_set ?_ GE159.out | refine below_set ?_ GE161.out) | exact HB.out)) hb)
          have n5_ := zK (hbox)
          have n6_ := zK ((by rw [hg]; exact (below_size (by repeat (first | (with_reducible first | exact HB.out | apply zA | apply zN | apply zD | refine below_set ?_ GE159.out | refine below_set ?_ GE161.out) | exact HB.out))) : w.heap.size ≤ gb174))
          have n7_ := zK ((by rw [hg]; exact (below_size (by repeat (first | (with_reducible first | exact HB.out | apply zA | apply zN | apply zD | refine below_set ?_ GE159.out | refine below_set ?_ GE161.out) | exact HB.out))) : w.heap.size ≤ gb174))
          have n8_ := zK ((by rw [hg]; exact Nat.ne_of_lt (blk_lt (g := gb159) (o := .cells #[.int .i64 0, .slice none 0 0] 26 (0, 0)) (by (with_reducible repeat (first | refine zM ?_ _ | refine zP ?_ | refine zQ ?_ _)); exact BK159.out)) : gb159 ≠ gb174))
          have n9_ := zK ((by rw [hg]; exact Nat.ne_of_gt (blk_lt (g := gb159) (o := .cells #[.int .i64 0, .slice none 0 0] 26 (0, 0)) (by (with_reducible repeat (first | refine zM ?_ _ | refine zP ?_ | refine zQ ?_ _)); exact BK159.out)) : gb174 ≠ gb159))
          have n10_ := zK ((by rw [hg]; exact Nat.ne_of_lt (blk_lt (g := gb161) (o := .cells #[.int .i64 0, u162001] 26 (0, 0)) (by (with_reducible repeat (first | refine zM ?_ _ | refine zP ?_ | refine zQ ?_ _)); exact BK161.out)) : gb161 ≠ gb174))
          have n11_ := zK ((by rw [hg]; exact Nat.ne_of_gt (blk_lt (g := gb161) (o := .cells #[.int .i64 0, u162001] 26 (0, 0)) (by (with_reducible repeat (first | refine zM ?_ _ | refine zP ?_ | refine zQ ?_ _)); exact BK161.out)) : gb174 ≠ gb161))
          clear HO_7
          clear HO_162001
          clear BK159
          clear BK161
          clear HB
          have HO_7 := n0_
          have HO_162001 := n1_
          have BK159 := n2_
          have BK161 := n3_
          have HB := n4_
          have BK174 := n5_
          have GW174 := n6_
          have GE174 := n7_
          have NB159_174 := n8_
          have NB174_159 := n9_
          have NB161_174 := n10_
          have NB174_161 := n11_
          clear n0_ n1_ n2_ n3_ n4_ n5_ n6_ n7_ n8_ n9_ n10_ n11_
          clear hb hbox hg
          refine hK.out _ _ ⟨HS0_, HS1_, HS2_⟩ (fun hHeld => ?_)
          clear hK K
          refine norm_ (a' := ?_) ?_ ?_
          rotate_left
          ·
           show Act.put _ (some 9) _ = _
           simp only [Act.put, zS, zT, zU, i64_w, i32_w]
           rfl
          refine one_ (i := 15) (N := some 42) #[zB,zB,zB,zB,zB,zB,zB,zB,zB,zB,zB,zB,zB,zB,zB,zB,zF,zB,zF] rfl rfl (one_of HT_.out (by kernel_rfl)) (by decide) (fun K hK => ?_)
          refine goes_ Tryz.func47 (by kernel_rfl) rfl #[.slice A1 l1.length c1, .string (rdOf ByteArray.empty t162 x8_1)] (by rfl) rfl rfl (by (try simp only [List.map_toArray, List.map_cons, List.map_nil]); first | done | rfl | (simp only [List.length_drop, List.length_take]; rfl)) ?_
          with_reducible refine (spec_l7Find.calls k1 _ _ l1 (rdOf ByteArray.empty t162 x8_1) t171 t172 t173 _ ?side1 ?side2 A15.out).mono ?_
          (case side1 => repeat (first | exact (Kd.C_below HR1.out HB.out) | (with_reducible refine Kd.C_alloc ?_ _) | (with_reducible refine Kd.C_drewN ?_ _) | (with_reducible refine Kd.C_drew ?_)))
          (case side2 => exact HC1.out)
          rintro e w43 ⟨rfl, hb⟩
          have HS0_ := (hb.cell (zL _ _ (hHeld.1))).trans (hHeld.1)
          have HS1_ := (hb.cell (zL _ _ (hHeld.2.1))).trans (hHeld.2.1)
          have HS2_ := (hb.cell (zL _ _ (hHeld.2.2))).trans (hHeld.2.2)
          refine ⟨_, rfl, ?_⟩
          have n0_ := zK (Kd.R_below (by (with_reducible repeat (first | apply zR | apply zV | apply zW)); exact HO_7.out) hb)
          have n1_ := zK (Kd.R_below (by (with_reducible repeat (first | apply zR | apply zV | apply zW)); exact HO_162001.out) hb)
          have n2_ := zK (blk_below (g := gb159) (o := .cells #[.int .i64 0, .slice none 0 0] 26 (0, 0)) (by (with_reducible repeat (first | refine zM ?_ _ | refine zP ?_ | refine zQ ?_ _)); exact BK159.out) hb)
          have n3_ := zK (blk_below (g := gb161) (o := .cells #[.int .i64 0, u162001] 26 (0, 0)) (by (with_reducible repeat (first | refine zM ?_ _ | refine zP ?_ | refine zQ ?_ _)); exact BK161.out) hb)
          have n4_ := zK (blk_below (g := gb174) (o := .cells #[.string (⟨#[]⟩ : ByteArray), .string (⟨#[]⟩ : ByteArray), .int .i64 0, .string (⟨#[]⟩ : ByteArray), .string (⟨#[]⟩ : ByteArray), .int .i64 0, .string (⟨#[]⟩ : ByteArray)] 77 (0, 0)) (by (with_reducible repeat (first | refine zM ?_ _ | refine zP ?_ | refine zQ ?_ _)); exact BK174.out) hb)
          have n5_ := zK (below_step (by repeat (first | (with_reducible first | exact HB.out | apply zA | apply zN | apply zD | refine below_set ?_ GE159.out | refine below_set ?_ GE161.out | refine below_set ?_ GE174.out) | exact HB.out)) hb)
          clear HO_7
          clear HO_162001
          clear BK159
          clear BK161
          clear BK174
          clear HB
          have HO_7 := n0_
          have HO_162001 := n1_
          have BK159 := n2_
          have BK161 := n3_
          have BK174 := n4_
          have HB := n5_
          clear n0_ n1_ n2_ n3_ n4_ n5_
          (try clear hb)
          (try clear hb2)
          (try clear hk)
          (try clear hi)
          refine hK.out _ _ ⟨HS0_, HS1_, HS2_⟩ (fun hHeld => ?_)
          clear hK K
          refine norm_ (a' := ?_) ?_ ?_
          rotate_left
          ·
           show Act.put _ (some 42) _ = _
           simp only [Act.put, zS, zT, zU, i64_w, i32_w]
           rfl
          refine pure_ (i := 16) (N := some 43) (v := ?_) (a' := ?_) #[zB,zB,zB,zB,zB,zB,zB,zB,zB,zB,zB,zB,zB,zB,zB,zB,zB,zB,zF] rfl rfl (any_of HT_.out (by kernel_rfl)) (fun _ _ _ h => h) (Or.inl ⟨by rfl, ?_⟩) ?_ ?_
          rotate_left
          ·
           intro w'
           go_simp
           with_reducible rfl
          rotate_left
          ·
           simp only [Act.put, zS, zT, zU, i64_w, i32_w]
           rfl
          exact norm_ (by simp only [putAll, Act.put, zS, zT, zU]) (hCont (gb174) _ ⟨hHeld, (by (with_reducible repeat (first | apply zR | apply zV | apply zW)); exact Kd.R_mono HO_162001.out (fun _ hk => hk.2)), (by (with_reducible repeat (first | apply zR | apply zV | apply zW)); exact HO_7.out), (by (with_reducible repeat (first | refine zM ?_ _ | refine zP ?_ | refine zQ ?_ _)); exact BK159.out), (by (with_reducible repeat (first | refine zM ?_ _ | refine zP ?_ | refine zQ ?_ _)); exact BK161.out), (by (with_reducible repeat (first | refine zM ?_ _ | refine zP ?_ | refine zQ ?_ _)); exact BK174.out), GW174.out, GE174.out, NB159_174.out, NB174_159.out, NB161_174.out, NB174_161.out, (by repeat (first | (with_reducible first | exact HB.out | apply zA | apply zN | apply zD | refine below_set ?_ GE159.out | refine below_set ?_ GE161.out | refine below_set ?_ GE174.out) | exact HB.out))⟩)
        ·
         skip
         refine box_step ?hg (N := 9) ?hd (cs := #[.string (⟨#[]⟩ : ByteArray), .string (⟨#[]⟩ : ByteArray), .int .i64 0, .string (⟨#[]⟩ : ByteArray), .string (⟨#[]⟩ : ByteArray), .int .i64 0, .string (⟨#[]⟩ : ByteArray)]) (t := 77) ?hr ?_; (case hd => rfl); (case hg => rfl); (case hr => first | (go_simp; done) | (go_simp; rfl))
         intro gb174 hg w41 hbox hb
         have HS0_ := (hb.cell (zL _ _ (hHeld.1))).trans (hHeld.1)
         have HS1_ := (hb.cell (zL _ _ (hHeld.2.1))).trans (hHeld.2.1)
         have HS2_ := (hb.cell (zL _ _ (hHeld.2.2))).trans (hHeld.2.2)
         have n0_ := zK (Kd.R_below (by (with_reducible repeat (first | apply zR | apply zV | apply zW)); exact HO_7.out) hb)
         have n1_ := zK (Kd.R_below (Kd.R_elderB (by (with_reducible repeat (first | apply zR | apply zV | apply zW)); exact HO_162001.out) gb174 (Nat.le_of_eq hg.symm)) hb)
         have n2_ := zK (blk_below (g := gb159) (o := .cells #[.int .i64 0, .slice none 0 0] 26 (0, 0)) (by (with_reducible repeat (first | refine zM ?_ _ | refine zP ?_ | refine zQ ?_ _)); exact BK159.out) hb)
         have n3_ := zK (blk_below (g := gb161) (o := .cells #[.int .i64 0, u162001] 26 (0, 0)) (by (with_reducible repeat (first | refine zM ?_ _ | refine zP ?_ | refine zQ ?_ _)); exact BK161.out) hb)
         have n4_ := zK (below_step (by repeat (first | (with_reducible first | exact HB.out | apply zA | apply zN | apply zD | refine below_set ?_ GE159.out | refine below_set ?_ GE161.out) | exact HB.out)) hb)
         have n5_ := zK (hbox)
         have n6_ := zK ((by rw [hg]; exact (below_size (by repeat (first | (with_reducible first | exact HB.out | apply zA | apply zN | apply zD | refine below_set ?_ GE159.out | refine below_set ?_ GE161.out) | exact HB.out))) : w.heap.size ≤ gb174))
         have n7_ := zK ((by rw [hg]; exact (below_size (by repeat (first | (with_reducible first | exact HB.out | apply zA | apply zN | apply zD | refine below_set ?_ GE159.out | refine below_set ?_ GE161.out) | exact HB.out))) : w.heap.size ≤ gb174))
         have n8_ := zK ((by rw [hg]; exact Nat.ne_of_lt (blk_lt (g := gb159) (o := .cells #[.int .i64 0, .slice none 0 0] 26 (0, 0)) (by (with_reducible repeat (first | refine zM ?_ _ | refine zP ?_ | refine zQ ?_ _)); exact BK159.out)) : gb159 ≠ gb174))
         have n9_ := zK ((by rw [hg]; exact Nat.ne_of_gt (blk_lt (g := gb159) (o := .cells #[.int .i64 0, .slice none 0 0] 26 (0, 0)) (by (with_reducible repeat (first | refine zM ?_ _ | refine zP ?_ | refine zQ ?_ _)); exact BK159.out)) : gb174 ≠ gb159))
         have n10_ := zK ((by rw [hg]; exact Nat.ne_of_lt (blk_lt (g := gb161) (o := .cells #[.int .i64 0, u162001] 26 (0, 0)) (by (with_reducible repeat (first | refine zM ?_ _ | refine zP ?_ | refine zQ ?_ _)); exact BK161.out)) : gb161 ≠ gb174))
         have n11_ := zK ((by rw [hg]; exact Nat.ne_of_gt (blk_lt (g := gb161) (o := .cells #[.int .i64 0, u162001] 26 (0, 0)) (by (with_reducible repeat (first | refine zM ?_ _ | refine zP ?_ | refine zQ ?_ _)); exact BK161.out)) : gb174 ≠ gb161))
         clear HO_7
         clear HO_162001
         clear BK159
         clear BK161
         clear HB
         have HO_7 := n0_
         have HO_162001 := n1_
         have BK159 := n2_
         have BK161 := n3_
         have HB := n4_
         have BK174 := n5_
         have GW174 := n6_
         have GE174 := n7_
         have NB159_174 := n8_
         have NB174_159 := n9_
         have NB161_174 := n10_
         have NB174_161 := n11_
         clear n0_ n1_ n2_ n3_ n4_ n5_ n6_ n7_ n8_ n9_ n10_ n11_
         clear hb hbox hg
         refine hK.out _ _ ⟨HS0_, HS1_, HS2_⟩ (fun hHeld => ?_)
         clear hK K
         refine norm_ (a' := ?_) ?_ ?_
         rotate_left
         ·
          show Act.put _ (some 9) _ = _
          simp only [Act.put, zS, zT, zU, i64_w, i32_w]
          rfl
         refine one_ (i := 9) (N := some 36) #[zB,zB,zB,zB,zB,zB,zB,zB,zB,zB,zB,zB,zB,zB,zB,zF,zF,zB,zF] rfl rfl (one_of HT_.out (by kernel_rfl)) (by decide) (fun K hK => ?_)
         refine goes_ Tryz.func47 (by kernel_rfl) rfl #[.slice A0 l0.length c0, .string (rdOf ByteArray.empty t162 x8_1)] (by rfl) rfl rfl (by (try simp only [List.map_toArray, List.map_cons, List.map_nil]); first | done | rfl | (simp only [List.length_drop, List.length_take]; rfl)) ?_
         with_reducible refine (spec_l7Find.calls k1 _ _ l0 (rdOf ByteArray.empty t162 x8_1) t167 t168 t169 _ ?side1 ?side2 A14.out).mono ?_
         (case side1 => repeat (first | exact (Kd.C_below HR0.out HB.out) | (with_reducible refine Kd.C_alloc ?_ _) | (with_reducible refine Kd.C_drewN ?_ _) | (with_reducible refine Kd.C_drew ?_)))
         (case side2 => exact HC0.out)
         rintro e w42 ⟨rfl, hb⟩
         have HS0_ := (hb.cell (zL _ _ (hHeld.1))).trans (hHeld.1)
         have HS1_ := (hb.cell (zL _ _ (hHeld.2.1))).trans (hHeld.2.1)
         have HS2_ := (hb.cell (zL _ _ (hHeld.2.2))).trans (hHeld.2.2)
         refine ⟨_, rfl, ?_⟩
         have n0_ := zK (Kd.R_below (by (with_reducible repeat (first | apply zR | apply zV | apply zW)); exact HO_7.out) hb)
         have n1_ := zK (Kd.R_below (by (with_reducible repeat (first | apply zR | apply zV | apply zW)); exact HO_162001.out) hb)
         have n2_ := zK (blk_below (g := gb159) (o := .cells #[.int .i64 0, .slice none 0 0] 26 (0, 0)) (by (with_reducible repeat (first | refine zM ?_ _ | refine zP ?_ | refine zQ ?_ _)); exact BK159.out) hb)
         have n3_ := zK (blk_below (g := gb161) (o := .cells #[.int .i64 0, u162001] 26 (0, 0)) (by (with_reducible repeat (first | refine zM ?_ _ | refine zP ?_ | refine zQ ?_ _)); exact BK161.out) hb)
         have n4_ := zK (blk_below (g := gb174) (o := .cells #[.string (⟨#[]⟩ : ByteArray), .string (⟨#[]⟩ : ByteArray), .int .i64 0, .string (⟨#[]⟩ : ByteArray), .string (⟨#[]⟩ : ByteArray), .int .i64 0, .string (⟨#[]⟩ : ByteArray)] 77 (0, 0)) (by (with_reducible repeat (first | refine zM ?_ _ | refine zP ?_ | refine zQ ?_ _)); exact BK174.out) hb)
         have n5_ := zK (below_step (by repeat (first | (with_reducible first | exact HB.out | apply zA | apply zN | apply zD | refine below_set ?_ GE159.out | refine below_set ?_ GE161.out | refine below_set ?_ GE174.out) | exact HB.out)) hb)
         clear HO_7
         clear HO_162001
         clear BK159
         clear BK161
         clear BK174
         clear HB
         have HO_7 := n0_
         have HO_162001 := n1_
         have BK159 := n2_
         have BK161 := n3_
         have BK174 := n4_
         have HB := n5_
         clear n0_ n1_ n2_ n3_ n4_ n5_
         (try clear hb)
         (try clear hb2)
         (try clear hk)
         (try clear hi)
         refine hK.out _ _ ⟨HS0_, HS1_, HS2_⟩ (fun hHeld => ?_)
         clear hK K
         refine norm_ (a' := ?_) ?_ ?_
         rotate_left
         ·
          show Act.put _ (some 36) _ = _
          simp only [Act.put, zS, zT, zU, i64_w, i32_w]
          rfl
         refine one_ (i := 15) (N := some 42) #[zB,zB,zB,zB,zB,zB,zB,zB,zB,zB,zB,zB,zB,zB,zB,zB,zF,zB,zF] rfl rfl (one_of HT_.out (by kernel_rfl)) (by decide) (fun K hK => ?_)
         refine goes_ Tryz.func47 (by kernel_rfl) rfl #[.slice A1 l1.length c1, .string (rdOf ByteArray.empty t162 x8_1)] (by rfl) rfl rfl (by (try simp only [List.map_toArray, List.map_cons, List.map_nil]); first | done | rfl | (simp only [List.length_drop, List.length_take]; rfl)) ?_
         with_reducible refine (spec_l7Find.calls k1 _ _ l1 (rdOf ByteArray.empty t162 x8_1) t171 t172 t173 _ ?side1 ?side2 A15.out).mono ?_
         (case side1 => repeat (first | exact (Kd.C_below HR1.out HB.out) | (with_reducible refine Kd.C_alloc ?_ _) | (with_reducible refine Kd.C_drewN ?_ _) | (with_reducible refine Kd.C_drew ?_)))
         (case side2 => exact HC1.out)
         rintro e w43 ⟨rfl, hb⟩
         have HS0_ := (hb.cell (zL _ _ (hHeld.1))).trans (hHeld.1)
         have HS1_ := (hb.cell (zL _ _ (hHeld.2.1))).trans (hHeld.2.1)
         have HS2_ := (hb.cell (zL _ _ (hHeld.2.2))).trans (hHeld.2.2)
         refine ⟨_, rfl, ?_⟩
         have n0_ := zK (Kd.R_below (by (with_reducible repeat (first | apply zR | apply zV | apply zW)); exact HO_7.out) hb)
         have n1_ := zK (Kd.R_below (by (with_reducible repeat (first | apply zR | apply zV | apply zW)); exact HO_162001.out) hb)
         have n2_ := zK (blk_below (g := gb159) (o := .cells #[.int .i64 0, .slice none 0 0] 26 (0, 0)) (by (with_reducible repeat (first | refine zM ?_ _ | refine zP ?_ | refine zQ ?_ _)); exact BK159.out) hb)
         have n3_ := zK (blk_below (g := gb161) (o := .cells #[.int .i64 0, u162001] 26 (0, 0)) (by (with_reducible repeat (first | refine zM ?_ _ | refine zP ?_ | refine zQ ?_ _)); exact BK161.out) hb)
         have n4_ := zK (blk_below (g := gb174) (o := .cells #[.string (⟨#[]⟩ : ByteArray), .string (⟨#[]⟩ : ByteArray), .int .i64 0, .string (⟨#[]⟩ : ByteArray), .string (⟨#[]⟩ : ByteArray), .int .i64 0, .string (⟨#[]⟩ : ByteArray)] 77 (0, 0)) (by (with_reducible repeat (first | refine zM ?_ _ | refine zP ?_ | refine zQ ?_ _)); exact BK174.out) hb)
         have n5_ := zK (below_step (by repeat (first | (with_reducible first | exact HB.out | apply zA | apply zN | apply zD | refine below_set ?_ GE159.out | refine below_set ?_ GE161.out | refine below_set ?_ GE174.out) | exact HB.out)) hb)
         clear HO_7
         clear HO_162001
         clear BK159
         clear BK161
         clear BK174
         clear HB
         have HO_7 := n0_
         have HO_162001 := n1_
         have BK159 := n2_
         have BK161 := n3_
         have BK174 := n4_
         have HB := n5_
         clear n0_ n1_ n2_ n3_ n4_ n5_
         (try clear hb)
         (try clear hb2)
         (try clear hk)
         (try clear hi)
         refine hK.out _ _ ⟨HS0_, HS1_, HS2_⟩ (fun hHeld => ?_)
         clear hK K
         refine norm_ (a' := ?_) ?_ ?_
         rotate_left
         ·
          show Act.put _ (some 42) _ = _
          simp only [Act.put, zS, zT, zU, i64_w, i32_w]
          rfl
         refine pure_ (i := 16) (N := some 43) (v := ?_) (a' := ?_) #[zB,zB,zB,zB,zB,zB,zB,zB,zB,zB,zB,zB,zB,zB,zB,zB,zB,zB,zF] rfl rfl (any_of HT_.out (by kernel_rfl)) (fun _ _ _ h => h) (Or.inl ⟨by rfl, ?_⟩) ?_ ?_
         rotate_left
         ·
          intro w'
          go_simp
          with_reducible rfl
         rotate_left
         ·
          simp only [Act.put, zS, zT, zU, i64_w, i32_w]
          rfl
         exact norm_ (by simp only [putAll, Act.put, zS, zT, zU]) (hCont (gb174) _ ⟨hHeld, (by (with_reducible repeat (first | apply zR | apply zV | apply zW)); exact Kd.R_mono HO_162001.out (fun _ hk => hk.2)), (by (with_reducible repeat (first | apply zR | apply zV | apply zW)); exact HO_7.out), (by (with_reducible repeat (first | refine zM ?_ _ | refine zP ?_ | refine zQ ?_ _)); exact BK159.out), (by (with_reducible repeat (first | refine zM ?_ _ | refine zP ?_ | refine zQ ?_ _)); exact BK161.out), (by (with_reducible repeat (first | refine zM ?_ _ | refine zP ?_ | refine zQ ?_ _)); exact BK174.out), GW174.out, GE174.out, NB159_174.out, NB174_159.out, NB161_174.out, NB174_161.out, (by repeat (first | (with_reducible first | exact HB.out | apply zA | apply zN | apply zD | refine below_set ?_ GE159.out | refine below_set ?_ GE161.out | refine below_set ?_ GE174.out) | exact HB.out))⟩)
       rintro gb174 w44 ⟨hS_, h0_, h1_, h2_, h3_, h4_, h5_, h6_, h7_, h8_, h9_, h10_, h11_⟩
       have n0_ : Aside0 (Kd.R k77 77 w44 w.heap.size (fun k_ => k_ ≠ gb174) u162001 x162001_1) := ⟨h0_⟩
       have n1_ : Aside0 (Kd.R Kd.string 9 w44 w.heap.size (fun _ => True) (.slice (some ad165) t162.length co39) t162) := ⟨h1_⟩
       have n2_ : Aside0 (w44.heap[gb159]? = some (.cells #[.int .i64 0, .slice none 0 0] 26 (0, 0))) := ⟨h2_⟩
       have n3_ : Aside0 (w44.heap[gb161]? = some (.cells #[.int .i64 0, u162001] 26 (0, 0))) := ⟨h3_⟩
       have n4_ : Aside0 (w44.heap[gb174]? = some (.cells #[.string (⟨#[]⟩ : ByteArray), .string (⟨#[]⟩ : ByteArray), .int .i64 0, .string (⟨#[]⟩ : ByteArray), .string (⟨#[]⟩ : ByteArray), .int .i64 0, .string (⟨#[]⟩ : ByteArray)] 77 (0, 0))) := ⟨h4_⟩
       have n5_ : Aside0 (w.heap.size ≤ gb174) := ⟨h5_⟩
       have n6_ : Aside0 (w.heap.size ≤ gb174) := ⟨h6_⟩
       have n7_ : Aside0 (gb159 ≠ gb174) := ⟨h7_⟩
       have n8_ : Aside0 (gb174 ≠ gb159) := ⟨h8_⟩
       have n9_ : Aside0 (gb161 ≠ gb174) := ⟨h9_⟩
       have n10_ : Aside0 (gb174 ≠ gb161) := ⟨h10_⟩
       have n11_ : Aside0 (Below w.heap.size w w44) := ⟨h11_⟩
       clear HO_7
       clear HO_162001
       clear BK159
       clear BK161
       clear HB
       clear h0_ h1_ h2_ h3_ h4_ h5_ h6_ h7_ h8_ h9_ h10_ h11_
       have HO_162001 := n0_
       have HO_7 := n1_
       have BK159 := n2_
       have BK161 := n3_
       have BK174 := n4_
       have GW174 := n5_
       have GE174 := n6_
       have NB159_174 := n7_
       have NB174_159 := n8_
       have NB161_174 := n9_
       have NB174_161 := n10_
       have HB := n11_
       clear n0_ n1_ n2_ n3_ n4_ n5_ n6_ n7_ n8_ n9_ n10_ n11_
       have hHeld : w44.cell? (ad165.add (x8_1).toNat) = some (.string (rdOf ByteArray.empty t162 x8_1)) ∧ w44.cell? (ad165.add (x8_1).toNat) = some (.string (rdOf ByteArray.empty t162 x8_1)) ∧ w44.cell? (ad165.add (x8_1).toNat) = some (.string (rdOf ByteArray.empty t162 x8_1)) := hS_
       refine norm_ (a' := ?_) ?_ ?_
       rotate_left
       ·
        simp only [putAll, Act.put, zS, zT, zU]
        rfl
       refine one_ (i := 18) (N := none) #[zB,zB,zB,zB,zB,zB,zB,zB,zB,zB,zB,zB,zB,zB,zB,zB,zB,zB,zB] rfl rfl (one_of HT_.out (by kernel_rfl)) (by decide) (fun K hK => ?_)
       have hs45 : w44.cell? ⟨gb174, 0, none⟩ = some (.string (⟨#[]⟩ : ByteArray)) := (blk_cell BK174.out 0).trans rfl
       have hfs45 := blk_frozen BK174.out 0
       have hns45_0 := NB159_174.out
       have hns45_1 := NB161_174.out
       have hms45_0 := NB174_159.out
       have hms45_1 := NB174_161.out
       have hs46 : w44.cell? ⟨gb174, 1, none⟩ = some (.string (⟨#[]⟩ : ByteArray)) := (blk_cell BK174.out 1).trans rfl
       have hfs46 := blk_frozen BK174.out 1
       have hns46_0 := NB159_174.out
       have hns46_1 := NB161_174.out
       have hms46_0 := NB174_159.out
       have hms46_1 := NB174_161.out
       have hs47 : w44.cell? ⟨gb174, 2, none⟩ = some (.int .i64 0) := (blk_cell BK174.out 2).trans rfl
       have hfs47 := blk_frozen BK174.out 2
       have hns47_0 := NB159_174.out
       have hns47_1 := NB161_174.out
       have hms47_0 := NB174_159.out
       have hms47_1 := NB174_161.out
       have hs48 : w44.cell? ⟨gb174, 3, none⟩ = some (.string (⟨#[]⟩ : ByteArray)) := (blk_cell BK174.out 3).trans rfl
       have hfs48 := blk_frozen BK174.out 3
       have hns48_0 := NB159_174.out
       have hns48_1 := NB161_174.out
       have hms48_0 := NB174_159.out
       have hms48_1 := NB174_161.out
       have hs49 : w44.cell? ⟨gb174, 4, none⟩ = some (.string (⟨#[]⟩ : ByteArray)) := (blk_cell BK174.out 4).trans rfl
       have hfs49 := blk_frozen BK174.out 4
       have hns49_0 := NB159_174.out
       have hns49_1 := NB161_174.out
       have hms49_0 := NB174_159.out
       have hms49_1 := NB174_161.out
       have hs50 : w44.cell? ⟨gb174, 5, none⟩ = some (.int .i64 0) := (blk_cell BK174.out 5).trans rfl
       have hfs50 := blk_frozen BK174.out 5
       have hns50_0 := NB159_174.out
       have hns50_1 := NB161_174.out
       have hms50_0 := NB174_159.out
       have hms50_1 := NB174_161.out
       have hs51 : w44.cell? ⟨gb174, 6, none⟩ = some (.string (⟨#[]⟩ : ByteArray)) := (blk_cell BK174.out 6).trans rfl
       have hfs51 := blk_frozen BK174.out 6
       have hns51_0 := NB159_174.out
       have hns51_1 := NB161_174.out
       have hms51_0 := NB174_159.out
       have hms51_1 := NB174_161.out
       refine skip_ (w1 := ?_) (by rfl) rfl ?_ ?_
       rotate_left
       ·
        go_simp
        rfl
       refine hK.out _ _ ⟨((cell_far (p := ⟨gb174, _, none⟩) (by first | exact Kd.own_blk (Kd.R_ne HO_7.out BK174.out (by decide)) | (rw [add_block]; exact Kd.own_blk (Kd.R_ne HO_7.out BK174.out (by decide))) | (show (Addr.add _ _).block ≠ _; rw [add_block]; exact Kd.own_blk (Kd.R_ne HO_7.out BK174.out (by decide))) | (dsimp only; exact Kd.own_blk (Kd.R_ne HO_7.out BK174.out (by decide)))) _).trans (((cell_far (p := ⟨gb174, _, none⟩) (by first | exact Kd.own_blk (Kd.R_ne HO_7.out BK174.out (by decide)) | (rw [add_block]; exact Kd.own_blk (Kd.R_ne HO_7.out BK174.out (by decide))) | (show (Addr.add _ _).block ≠ _; rw [add_block]; exact Kd.own_blk (Kd.R_ne HO_7.out BK174.out (by decide))) | (dsimp only; exact Kd.own_blk (Kd.R_ne HO_7.out BK174.out (by decide)))) _).trans (((cell_far (p := ⟨gb174, _, none⟩) (by first | exact Kd.own_blk (Kd.R_ne HO_7.out BK174.out (by decide)) | (rw [add_block]; exact Kd.own_blk (Kd.R_ne HO_7.out BK174.out (by decide))) | (show (Addr.add _ _).block ≠ _; rw [add_block]; exact Kd.own_blk (Kd.R_ne HO_7.out BK174.out (by decide))) | (dsimp only; exact Kd.own_blk (Kd.R_ne HO_7.out BK174.out (by decide)))) _).trans (((cell_far (p := ⟨gb174, _, none⟩) (by first | exact Kd.own_blk (Kd.R_ne HO_7.out BK174.out (by decide)) | (rw [add_block]; exact Kd.own_blk (Kd.R_ne HO_7.out BK174.out (by decide))) | (show (Addr.add _ _).block ≠ _; rw [add_block]; exact Kd.own_blk (Kd.R_ne HO_7.out BK174.out (by decide))) | (dsimp only; exact Kd.own_blk (Kd.R_ne HO_7.out BK174.out (by decide)))) _).trans (((cell_far (p := ⟨gb174, _, none⟩) (by first | exact Kd.own_blk (Kd.R_ne HO_7.out BK174.out (by decide)) | (rw [add_block]; exact Kd.own_blk (Kd.R_ne HO_7.out BK174.out (by decide))) | (show (Addr.add _ _).block ≠ _; rw [add_block]; exact Kd.own_blk (Kd.R_ne HO_7.out BK174.out (by decide))) | (dsimp only; exact Kd.own_blk (Kd.R_ne HO_7.out BK174.out (by decide)))) _).trans (((cell_far (p := ⟨gb174, _, none⟩) (by first | exact Kd.own_blk (Kd.R_ne HO_7.out BK174.out (by decide)) | (rw [add_block]; exact Kd.own_blk (Kd.R_ne HO_7.out BK174.out (by decide))) | (show (Addr.add _ _).block ≠ _; rw [add_block]; exact Kd.own_blk (Kd.R_ne HO_7.out BK174.out (by decide))) | (dsimp only; exact Kd.own_blk (Kd.R_ne HO_7.out BK174.out (by decide)))) _).trans (((cell_far (p := ⟨gb174, _, none⟩) (by first | exact Kd.own_blk (Kd.R_ne HO_7.out BK174.out (by decide)) | (rw [add_block]; exact Kd.own_blk (Kd.R_ne HO_7.out BK174.out (by decide))) | (show (Addr.add _ _).block ≠ _; rw [add_block]; exact Kd.own_blk (Kd.R_ne HO_7.out BK174.out (by decide))) | (dsimp only; exact Kd.own_blk (Kd.R_ne HO_7.out BK174.out (by decide)))) _).trans (hHeld.1)))))))))))))), ((cell_far (p := ⟨gb174, _, none⟩) (by first | exact Kd.own_blk (Kd.R_ne HO_7.out BK174.out (by decide)) | (rw [add_block]; exact Kd.own_blk (Kd.R_ne HO_7.out BK174.out (by decide))) | (show (Addr.add _ _).block ≠ _; rw [add_block]; exact Kd.own_blk (Kd.R_ne HO_7.out BK174.out (by decide))) | (dsimp only; exact Kd.own_blk (Kd.R_ne HO_7.out BK174.out (by decide)))) _).trans (((cell_far (p := ⟨gb174, _, none⟩) (by first | exact Kd.own_blk (Kd.R_ne HO_7.out BK174.out (by decide)) | (rw [add_block]; exact Kd.own_blk (Kd.R_ne HO_7.out BK174.out (by decide))) | (show (Addr.add _ _).block ≠ _; rw [add_block]; exact Kd.own_blk (Kd.R_ne HO_7.out BK174.out (by decide))) | (dsimp only; exact Kd.own_blk (Kd.R_ne HO_7.out BK174.out (by decide)))) _).trans (((cell_far (p := ⟨gb174, _, none⟩) (by first | exact Kd.own_blk (Kd.R_ne HO_7.out BK174.out (by decide)) | (rw [add_block]; exact Kd.own_blk (Kd.R_ne HO_7.out BK174.out (by decide))) | (show (Addr.add _ _).block ≠ _; rw [add_block]; exact Kd.own_blk (Kd.R_ne HO_7.out BK174.out (by decide))) | (dsimp only; exact Kd.own_blk (Kd.R_ne HO_7.out BK174.out (by decide)))) _).trans (((cell_far (p := ⟨gb174, _, none⟩) (by first | exact Kd.own_blk (Kd.R_ne HO_7.out BK174.out (by decide)) | (rw [add_block]; exact Kd.own_blk (Kd.R_ne HO_7.out BK174.out (by decide))) | (show (Addr.add _ _).block ≠ _; rw [add_block]; exact Kd.own_blk (Kd.R_ne HO_7.out BK174.out (by decide))) | (dsimp only; exact Kd.own_blk (Kd.R_ne HO_7.out BK174.out (by decide)))) _).trans (((cell_far (p := ⟨gb174, _, none⟩) (by first | exact Kd.own_blk (Kd.R_ne HO_7.out BK174.out (by decide)) | (rw [add_block]; exact Kd.own_blk (Kd.R_ne HO_7.out BK174.out (by decide))) | (show (Addr.add _ _).block ≠ _; rw [add_block]; exact Kd.own_blk (Kd.R_ne HO_7.out BK174.out (by decide))) | (dsimp only; exact Kd.own_blk (Kd.R_ne HO_7.out BK174.out (by decide)))) _).trans (((cell_far (p := ⟨gb174, _, none⟩) (by first | exact Kd.own_blk (Kd.R_ne HO_7.out BK174.out (by decide)) | (rw [add_block]; exact Kd.own_blk (Kd.R_ne HO_7.out BK174.out (by decide))) | (show (Addr.add _ _).block ≠ _; rw [add_block]; exact Kd.own_blk (Kd.R_ne HO_7.out BK174.out (by decide))) | (dsimp only; exact Kd.own_blk (Kd.R_ne HO_7.out BK174.out (by decide)))) _).trans (((cell_far (p := ⟨gb174, _, none⟩) (by first | exact Kd.own_blk (Kd.R_ne HO_7.out BK174.out (by decide)) | (rw [add_block]; exact Kd.own_blk (Kd.R_ne HO_7.out BK174.out (by decide))) | (show (Addr.add _ _).block ≠ _; rw [add_block]; exact Kd.own_blk (Kd.R_ne HO_7.out BK174.out (by decide))) | (dsimp only; exact Kd.own_blk (Kd.R_ne HO_7.out BK174.out (by decide)))) _).trans (hHeld.2.1)))))))))))))), ((cell_far (p := ⟨gb174, _, none⟩) (by first | exact Kd.own_blk (Kd.R_ne HO_7.out BK174.out (by decide)) | (rw [add_block]; exact Kd.own_blk (Kd.R_ne HO_7.out BK174.out (by decide))) | (show (Addr.add _ _).block ≠ _; rw [add_block]; exact Kd.own_blk (Kd.R_ne HO_7.out BK174.out (by decide))) | (dsimp only; exact Kd.own_blk (Kd.R_ne HO_7.out BK174.out (by decide)))) _).trans (((cell_far (p := ⟨gb174, _, none⟩) (by first | exact Kd.own_blk (Kd.R_ne HO_7.out BK174.out (by decide)) | (rw [add_block]; exact Kd.own_blk (Kd.R_ne HO_7.out BK174.out (by decide))) | (show (Addr.add _ _).block ≠ _; rw [add_block]; exact Kd.own_blk (Kd.R_ne HO_7.out BK174.out (by decide))) | (dsimp only; exact Kd.own_blk (Kd.R_ne HO_7.out BK174.out (by decide)))) _).trans (((cell_far (p := ⟨gb174, _, none⟩) (by first | exact Kd.own_blk (Kd.R_ne HO_7.out BK174.out (by decide)) | (rw [add_block]; exact Kd.own_blk (Kd.R_ne HO_7.out BK174.out (by decide))) | (show (Addr.add _ _).block ≠ _; rw [add_block]; exact Kd.own_blk (Kd.R_ne HO_7.out BK174.out (by decide))) | (dsimp only; exact Kd.own_blk (Kd.R_ne HO_7.out BK174.out (by decide)))) _).trans (((cell_far (p := ⟨gb174, _, none⟩) (by first | exact Kd.own_blk (Kd.R_ne HO_7.out BK174.out (by decide)) | (rw [add_block]; exact Kd.own_blk (Kd.R_ne HO_7.out BK174.out (by decide))) | (show (Addr.add _ _).block ≠ _; rw [add_block]; exact Kd.own_blk (Kd.R_ne HO_7.out BK174.out (by decide))) | (dsimp only; exact Kd.own_blk (Kd.R_ne HO_7.out BK174.out (by decide)))) _).trans (((cell_far (p := ⟨gb174, _, none⟩) (by first | exact Kd.own_blk (Kd.R_ne HO_7.out BK174.out (by decide)) | (rw [add_block]; exact Kd.own_blk (Kd.R_ne HO_7.out BK174.out (by decide))) | (show (Addr.add _ _).block ≠ _; rw [add_block]; exact Kd.own_blk (Kd.R_ne HO_7.out BK174.out (by decide))) | (dsimp only; exact Kd.own_blk (Kd.R_ne HO_7.out BK174.out (by decide)))) _).trans (((cell_far (p := ⟨gb174, _, none⟩) (by first | exact Kd.own_blk (Kd.R_ne HO_7.out BK174.out (by decide)) | (rw [add_block]; exact Kd.own_blk (Kd.R_ne HO_7.out BK174.out (by decide))) | (show (Addr.add _ _).block ≠ _; rw [add_block]; exact Kd.own_blk (Kd.R_ne HO_7.out BK174.out (by decide))) | (dsimp only; exact Kd.own_blk (Kd.R_ne HO_7.out BK174.out (by decide)))) _).trans (((cell_far (p := ⟨gb174, _, none⟩) (by first | exact Kd.own_blk (Kd.R_ne HO_7.out BK174.out (by decide)) | (rw [add_block]; exact Kd.own_blk (Kd.R_ne HO_7.out BK174.out (by decide))) | (show (Addr.add _ _).block ≠ _; rw [add_block]; exact Kd.own_blk (Kd.R_ne HO_7.out BK174.out (by decide))) | (dsimp only; exact Kd.own_blk (Kd.R_ne HO_7.out BK174.out (by decide)))) _).trans (hHeld.2.2))))))))))))))⟩ (fun hHeld => ?_)
       clear hK K
       refine done_ (done_of HT_.out (by kernel_rfl)) ?_
       have hnb52 := NB174_159.out
       have hnc52 := NB159_174.out
       have hnb53 := NB174_161.out
       have hnc53 := NB161_174.out
       have hcz54_0 : w44.cell? ⟨gb174, 0, none⟩ = some (.string (⟨#[]⟩ : ByteArray)) := (blk_cell BK174.out 0).trans rfl
       have hcz54_1 : w44.cell? ⟨gb174, 1, none⟩ = some (.string (⟨#[]⟩ : ByteArray)) := (blk_cell BK174.out 1).trans rfl
       have hcz54_2 : w44.cell? ⟨gb174, 2, none⟩ = some (.int .i64 0) := (blk_cell BK174.out 2).trans rfl
       have hcz54_3 : w44.cell? ⟨gb174, 3, none⟩ = some (.string (⟨#[]⟩ : ByteArray)) := (blk_cell BK174.out 3).trans rfl
       have hcz54_4 : w44.cell? ⟨gb174, 4, none⟩ = some (.string (⟨#[]⟩ : ByteArray)) := (blk_cell BK174.out 4).trans rfl
       have hcz54_5 : w44.cell? ⟨gb174, 5, none⟩ = some (.int .i64 0) := (blk_cell BK174.out 5).trans rfl
       have hcz54_6 : w44.cell? ⟨gb174, 6, none⟩ = some (.string (⟨#[]⟩ : ByteArray)) := (blk_cell BK174.out 6).trans rfl
       have hfz54_0 := blk_frozen BK174.out 0
       have hfz54_1 := blk_frozen BK174.out 1
       have hfz54_2 := blk_frozen BK174.out 2
       have hfz54_3 := blk_frozen BK174.out 3
       have hfz54_4 := blk_frozen BK174.out 4
       have hfz54_5 := blk_frozen BK174.out 5
       have hfz54_6 := blk_frozen BK174.out 6
       try go_wp2
       go_roundg k1
       case measure => have := HK1.out; omega
       case rel => exact ⟨(wrap64 (x8_1 + 1)), (x162001_1), (u162001), (by first | rfl | (simp; done) | (simp [*]; done)), H', ⟨by have := HK1.out; omega⟩, ⟨by (with_reducible repeat (first | apply zR | apply zV | apply zW)); exact Kd.R_mono (Kd.R_far (p := ⟨gb174, 6, none⟩) (Kd.R_far (p := ⟨gb174, 5, none⟩) (Kd.R_far (p := ⟨gb174, 4, none⟩) (Kd.R_far (p := ⟨gb174, 3, none⟩) (Kd.R_far (p := ⟨gb174, 2, none⟩) (Kd.R_far (p := ⟨gb174, 1, none⟩) (Kd.R_far (p := ⟨gb174, 0, none⟩) (Kd.R_types HO_7.out BK174.out (by decide)) (fun _ hk => hk.2) (.string (rdOf ByteArray.empty t162 x8_1))) (fun _ hk => hk.2) (.string t167)) (fun _ hk => hk.2) (.int .i64 t168)) (fun _ hk => hk.2) (.string t169)) (fun _ hk => hk.2) (.string t171)) (fun _ hk => hk.2) (.int .i64 t172)) (fun _ hk => hk.2) (.string t173)) (fun _ hk => trivial)⟩, ⟨by (with_reducible repeat (first | apply zR | apply zV | apply zW)); exact Kd.R_mono (Kd.R_far (p := ⟨gb174, 6, none⟩) (Kd.R_far (p := ⟨gb174, 5, none⟩) (Kd.R_far (p := ⟨gb174, 4, none⟩) (Kd.R_far (p := ⟨gb174, 3, none⟩) (Kd.R_far (p := ⟨gb174, 2, none⟩) (Kd.R_far (p := ⟨gb174, 1, none⟩) (Kd.R_far (p := ⟨gb174, 0, none⟩) (Kd.R_mono HO_162001.out (fun k_ hk => (⟨hk, hk⟩ : _ ∧ k_ ≠ gb174))) (fun _ hk => hk.2) (.string (rdOf ByteArray.empty t162 x8_1))) (fun _ hk => hk.2) (.string t167)) (fun _ hk => hk.2) (.int .i64 t168)) (fun _ hk => hk.2) (.string t169)) (fun _ hk => hk.2) (.string t171)) (fun _ hk => hk.2) (.int .i64 t172)) (fun _ hk => hk.2) (.string t173)) (fun _ hk => trivial)⟩, ⟨by (with_reducible repeat (first | refine zM ?_ _ | refine zP ?_ | refine zQ ?_ _)); refine blk_far ?_ NB159_174.out _; (with_reducible repeat (first | refine zM ?_ _ | refine zP ?_ | refine zQ ?_ _)); refine blk_far ?_ NB159_174.out _; (with_reducible repeat (first | refine zM ?_ _ | refine zP ?_ | refine zQ ?_ _)); refine blk_far ?_ NB159_174.out _; (with_reducible repeat (first | refine zM ?_ _ | refine zP ?_ | refine zQ ?_ _)); refine blk_far ?_ NB159_174.out _; (with_reducible repeat (first | refine zM ?_ _ | refine zP ?_ | refine zQ ?_ _)); refine blk_far ?_ NB159_174.out _; (with_reducible repeat (first | refine zM ?_ _ | refine zP ?_ | refine zQ ?_ _)); refine blk_far ?_ NB159_174.out _; (with_reducible repeat (first | refine zM ?_ _ | refine zP ?_ | refine zQ ?_ _)); refine blk_far ?_ NB159_174.out _; (with_reducible repeat (first | refine zM ?_ _ | refine zP ?_ | refine zQ ?_ _)); exact BK159.out⟩, ⟨by (with_reducible repeat (first | refine zM ?_ _ | refine zP ?_ | refine zQ ?_ _)); refine blk_far ?_ NB161_174.out _; (with_reducible repeat (first | refine zM ?_ _ | refine zP ?_ | refine zQ ?_ _)); refine blk_far ?_ NB161_174.out _; (with_reducible repeat (first | refine zM ?_ _ | refine zP ?_ | refine zQ ?_ _)); refine blk_far ?_ NB161_174.out _; (with_reducible repeat (first | refine zM ?_ _ | refine zP ?_ | refine zQ ?_ _)); refine blk_far ?_ NB161_174.out _; (with_reducible repeat (first | refine zM ?_ _ | refine zP ?_ | refine zQ ?_ _)); refine blk_far ?_ NB161_174.out _; (with_reducible repeat (first | refine zM ?_ _ | refine zP ?_ | refine zQ ?_ _)); refine blk_far ?_ NB161_174.out _; (with_reducible repeat (first | refine zM ?_ _ | refine zP ?_ | refine zQ ?_ _)); refine blk_far ?_ NB161_174.out _; (with_reducible repeat (first | refine zM ?_ _ | refine zP ?_ | refine zQ ?_ _)); exact BK161.out⟩, ⟨by repeat (first | (with_reducible first | exact HB.out | apply zA | apply zN | apply zD | refine below_set ?_ GE159.out | refine below_set ?_ GE161.out | refine below_set ?_ GE174.out) | exact HB.out)⟩⟩
     ·
      rw [if_neg c13] at H
      exact absurd H (by simp)
    ·
     rw [if_neg c12] at H
     have c12b0 : decide (x8_1 < (t162.length : Int)) = false := decide_eq_false c12
     clear c12
     simp only [Option.some.injEq, Prod.mk.injEq] at H
     obtain ⟨rfl, rfl⟩ := H
     obtain ⟨Ao55, co55, eo55⟩ := Kd.R_slice HO_7.out
     subst eo55
     have hnb56 := NB161_159.out
     have hnc56 := NB159_161.out
     have hcz57_0 : wr.cell? ⟨gb161, 0, none⟩ = some (.int .i64 0) := (blk_cell BK161.out 0).trans rfl
     have hcz57_1 : wr.cell? ⟨gb161, 1, none⟩ = some (u162001) := (blk_cell BK161.out 1).trans rfl
     have hfz57_0 := blk_frozen BK161.out 0
     have hfz57_1 := blk_frozen BK161.out 1
     have hcz58_0 : wr.cell? ⟨gb159, 0, none⟩ = some (.int .i64 0) := (blk_cell BK159.out 0).trans rfl
     have hcz58_1 : wr.cell? ⟨gb159, 1, none⟩ = some (.slice none 0 0) := (blk_cell BK159.out 1).trans rfl
     have hfz58_0 := blk_frozen BK159.out 0
     have hfz58_1 := blk_frozen BK159.out 1
     obtain ⟨Ao59, co59, eo59⟩ := Kd.R_slice HO_162001.out
     subst eo59
     go_wp2
     refine bodyPost_ret (results_cell_row rfl _ _ gb159 26 #[.int .i64 0, .slice Ao59 x162001_1.length co59] (0, 0) _ rfl (by (with_reducible repeat (first | refine zM ?_ _ | refine zP ?_ | refine zQ ?_ _)); refine blk_put (cs := #[.int .i64 0, .slice none 0 0]) ?_ 1 _ rfl; (with_reducible repeat (first | refine zM ?_ _ | refine zP ?_ | refine zQ ?_ _)); refine blk_put (cs := #[.int .i64 0, .slice none 0 0]) ?_ 0 _ rfl; (with_reducible repeat (first | refine zM ?_ _ | refine zP ?_ | refine zQ ?_ _)); exact BK159.out) Tryz.underlying26 rfl (by kernel_rfl)) rfl ?_
     exact ⟨_, by first | rfl | (simp [errW_none, errW_some] <;> rfl) | (simp [*, errW_none, errW_some] <;> rfl), by (with_reducible repeat (first | apply zR | apply zV | apply zW)); exact Kd.R_mono (Kd.R_far (p := ⟨gb159, 1, none⟩) (Kd.R_far (p := ⟨gb159, 0, none⟩) (Kd.R_types HO_162001.out BK159.out (by decide)) (fun _ hk => hk.2) (.int .i64 0)) (fun _ hk => hk.2) (.slice Ao59 x162001_1.length co59)) (fun _ hk => trivial), by repeat (first | (with_reducible first | exact HB.out | apply zA | apply zN | apply zD | refine below_set ?_ GE159.out | refine below_set ?_ GE161.out) | exact HB.out)⟩
 ·
  rw [if_neg c4] at H
  have c4b0 : (t160 == 0) = false := beq_eq_false_iff_ne.mpr c4
  have c4b1 : (t160 != 0) = true := bne_iff_ne.mpr c4
  simp only [Option.some.injEq, Prod.mk.injEq] at H
  obtain ⟨rfl, rfl⟩ := H
  go_enter Tryz.func10, Tryz.ntmps10
  go_wp2_with (first | ((with_reducible refine gate_dst (N := 4) rfl ?_); refine box_event ?hg (N := 4) ?hd (cs := #[.int .i64 0, .slice none 0 0]) (t := 26) ?hr ?_; (case hd => rfl); (case hg => rfl); (case hr => first | (go_simp; done) | (go_simp; rfl)); intro gb159 hg w60 hbox hb; have n0_ := zK (below_step (by repeat (first | (with_reducible first | exact HB.out | apply zA | apply zN | apply zD) | exact HB.out)) hb); have n1_ := zK (hbox); have n2_ := zK ((by rw [hg]; exact (below_size (by repeat (first | (with_reducible first | exact HB.out | apply zA | apply zN | apply zD) | exact HB.out))) : w.heap.size ≤ gb159)); have n3_ := zK ((by rw [hg]; exact (below_size (by repeat (first | (with_reducible first | exact HB.out | apply zA | apply zN | apply zD) | exact HB.out))) : w.heap.size ≤ gb159)); clear HB; have HB := n0_; have BK159 := n1_; have GW159 := n2_; have GE159 := n3_; clear n0_ n1_ n2_ n3_; clear hb hbox hg) | ((with_reducible refine gate_callee (f := 45) rfl ?_); refine goesL_ (some 12) rfl rfl Tryz.func45 (by kernel_rfl) rfl #[.slice A0 l0.length c0, .slice A1 l1.length c1] rfl (by (try simp only [List.map_toArray, List.map_cons, List.map_nil]); first | done | rfl | (simp only [List.length_drop, List.length_take]; rfl)) ?_; (with_reducible refine (spec_l7Both.calls k _ _ l0 _ _ l1 t160 _ ?side1 ?side2 ?side3 ?side4 A3.out).mono ?_); (case side1 => repeat (first | exact (Kd.C_below HR0.out HB.out) | (with_reducible refine Kd.C_alloc ?_ _) | (with_reducible refine Kd.C_drewN ?_ _) | (with_reducible refine Kd.C_drew ?_))); (case side2 => exact HC0.out); (case side3 => repeat (first | exact (Kd.C_below HR1.out HB.out) | (with_reducible refine Kd.C_alloc ?_ _) | (with_reducible refine Kd.C_drewN ?_ _) | (with_reducible refine Kd.C_drew ?_))); (case side4 => exact HC1.out); rintro e w61 ⟨rfl, hb⟩; refine ⟨_, rfl, ?_⟩; have n0_ := zK (blk_below (g := gb159) (o := .cells #[.int .i64 0, .slice none 0 0] 26 (0, 0)) (by (with_reducible repeat (first | refine zM ?_ _ | refine zP ?_ | refine zQ ?_ _)); exact BK159.out) hb); have n1_ := zK (below_step (by repeat (first | (with_reducible first | exact HB.out | apply zA | apply zN | apply zD | refine below_set ?_ GE159.out) | exact HB.out)) hb); clear BK159; clear HB; have BK159 := n0_; have HB := n1_; clear n0_ n1_; (try clear hb); (try clear hb2); (try clear hk); (try clear hi); have hcz62_0 : w61.cell? ⟨gb159, 0, none⟩ = some (.int .i64 0) := (blk_cell BK159.out 0).trans rfl; have hcz62_1 : w61.cell? ⟨gb159, 1, none⟩ = some (.slice none 0 0) := (blk_cell BK159.out 1).trans rfl; have hfz62_0 := blk_frozen BK159.out 0; have hfz62_1 := blk_frozen BK159.out 1))
  refine bodyPost_ret (results_cell_row rfl _ _ gb159 26 #[.int .i64 t160, .slice none 0 0] (0, 0) _ rfl (by (with_reducible repeat (first | refine zM ?_ _ | refine zP ?_ | refine zQ ?_ _)); refine blk_put (cs := #[.int .i64 t160, .slice none 0 0]) ?_ 1 _ rfl; (with_reducible repeat (first | refine zM ?_ _ | refine zP ?_ | refine zQ ?_ _)); refine blk_put (cs := #[.int .i64 0, .slice none 0 0]) ?_ 0 _ rfl; (with_reducible repeat (first | refine zM ?_ _ | refine zP ?_ | refine zQ ?_ _)); exact BK159.out) Tryz.underlying26 rfl (by kernel_rfl)) rfl ?_
  exact ⟨_, by first | rfl | (simp [errW_none, errW_some] <;> rfl) | (simp [*, errW_none, errW_some] <;> rfl), by first | exact Kd.R_nil _ _ _ _ _ | exact Kd.N_nil _ _ _ _ _ | exact Kd.V_nil _ _ _ _ _ | exact Kd.Q_nil _ _ _ _ _ | exact Kd.S_nil _ _ _ _ _, by repeat (first | (with_reducible first | exact HB.out | apply zA | apply zN | apply zD | refine below_set ?_ GE159.out) | exact HB.out)⟩

end Go.Proofs.YtjibadlbiapcmaaGreatDoor.PX
