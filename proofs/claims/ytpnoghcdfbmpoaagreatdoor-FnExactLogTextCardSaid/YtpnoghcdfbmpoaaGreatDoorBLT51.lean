/- Texts of this claim set one behind another by wip/bundle.py: XReach, XAncPure. -/
import Derived.Test.YtpnoghcdfbmpoaaGreatDoorBLT25
import Derived.Test.YtpnoghcdfbmpoaaGreatDoorBLT20
import Derived.Test.YtpnoghcdfbmpoaaGreatDoorBLT35
import Derived.Test.YtpnoghcdfbmpoaaGreatDoorBLT48
import Derived.IntWalk
namespace Go.Proofs.YtpnoghcdfbmpoaaGreatDoor.PX.X
open Go Go.RowKit Go.Lib Go.Proofs.YtpnoghcdfbmpoaaGreatDoorW.PrintWords Go.Proofs.YtpnoghcdfbmpoaaGreatDoor.PX
set_option linter.unusedVariables false
set_option linter.unusedSimpArgs false
def reachI (cm : ByteArray → CmR) : Nat → List ByteArray → List ByteArray → Option (List ByteArray)
 | 0, _, _ => none
 | k + 1, L, T => if 0 < T.length then (if (T.getD 0 ByteArray.empty).size ≤ 9223372036854775807 ∧ L.length ≤ 1048576 ∧ T.length + (parsC (cm (T.getD 0 ByteArray.empty))).length ≤ 4194304 then (if hasB L (T.getD 0 ByteArray.empty) = true then reachI cm k L (T.drop 1) else reachI cm k (L ++ [T.getD 0 ByteArray.empty]) (T.drop 1 ++ parsC (cm (T.getD 0 ByteArray.empty)))) else none) else (if L.length ≤ 1048576 then some L else none)
theorem rdS0 (l : List ByteArray) : rdOf ByteArray.empty l 0 = l.getD 0 ByteArray.empty := rfl
theorem qs_only {e base : Nat} {w : World} {ok : Nat → Prop} {v : Value} {xs : List ByteArray} (h : Kd.string.Q e w base ok v xs) : Kd.string.Q e w base (fun k => some k = v.ownBlock) v xs := by
 obtain ⟨h0, inner, ho, hr⟩ := h
 have := reps_str xs inner hr
 subst this
 exact ⟨fun k hk => hk.symm, _, ho, str_reps xs⟩
theorem seen_cells {w : World} {b k t : Nat} {L : List ByteArray} {cells : Array Value} (h : Seen w b L) (hc : w.heap[k]? = some (.cells cells t (0, 0))) : k ≠ b := by
 obtain ⟨D, ⟨es, clock, hb, _⟩, _⟩ := h
 rintro rfl
 rw [hb] at hc
 cases hc
theorem drop_own {A : Option Addr} {c k n m s : Nat} {c2 : Nat} : (Value.slice (if c = k then A else A.map (·.add s)) n c2).ownBlock = (Value.slice A m c).ownBlock := by
 split
 · cases A <;> rfl
 · cases A with
   | none => rfl
   | some a => simp [Value.ownBlock]; unfold Addr.add; split <;> rfl
theorem q_map {e base : Nat} {w w1 : World} {b : Nat} {L xs : List ByteArray} {v : Value} (h : Kd.string.Q e w base (fun _ => True) v xs) (hs : Seen w b L) (hg : w.grownBy w1 (some b)) : Kd.string.Q e w1 base (fun _ => True) v xs :=
 Kd.Q_mono (Kd.Q_grown (Kd.Q_bound h) hg (fun k hk he => by
  obtain ⟨_, _, _, q, _, cells, hc⟩ := hk
  exact seen_cells hs hc (Option.some.inj he))) (fun _ _ => trivial)
theorem r_map {e base : Nat} {w w1 : World} {b : Nat} {L xs : List ByteArray} {v : Value} {ok : Nat → Prop} (h : Kd.string.R e w base ok v xs) (hs : Seen w b L) (hg : w.grownBy w1 (some b)) : Kd.string.R e w1 base ok v xs :=
 Kd.R_mono (Kd.R_grown (Kd.R_bound h) hg (fun k hk he => by
  obtain ⟨_, _, _, q, _, cells, hc⟩ := hk
  exact seen_cells hs hc (Option.some.inj he))) (fun _ hk => hk.1)
theorem seen_row {e base : Nat} {w : World} {b : Nat} {L xs : List ByteArray} {v : Value} {ok : Nat → Prop} (h : Kd.string.R e w base ok v xs) (hs : Seen w b L) : some b ≠ v.ownBlock := fun he => by
 obtain ⟨_, _, _, q, _, cells, hc⟩ := (Kd.R_bound h).1 b he.symm
 exact seen_cells hs hc rfl
theorem seen_queue {e base : Nat} {w : World} {b : Nat} {L xs : List ByteArray} {v : Value} {ok : Nat → Prop} (h : Kd.string.Q e w base ok v xs) (hs : Seen w b L) : some b ≠ v.ownBlock := fun he => by
 obtain ⟨_, _, _, q, _, cells, hc⟩ := (Kd.Q_bound h).1 b he.symm
 exact seen_cells hs hc rfl
theorem q_beside {e e' base : Nat} {w w1 : World} {xs ys : List ByteArray} {v u : Value} (h : Kd.string.Q e w base (fun _ => True) v xs) (hu : Kd.string.R e' w base (fun k => True ∧ some k ≠ v.ownBlock) u ys) (hg : w.grownBy w1 u.ownBlock) : Kd.string.Q e w1 base (fun _ => True) v xs :=
 Kd.Q_mono (Kd.Q_grown (qs_only h) hg (fun k hk he => (hu.1 k he.symm).2 hk)) (fun _ _ => trivial)
theorem r_aside {e e' base : Nat} {w w1 : World} {xs ys : List ByteArray} {v u : Value} (h : Kd.string.Q e w base (fun _ => True) v xs) (hu : Kd.string.R e' w1 w.heap.size (fun _ => True) u ys) : Kd.string.R e' w1 w.heap.size (fun k => True ∧ some k ≠ v.ownBlock) u ys :=
 Kd.R_mono (Kd.R_bound hu) (fun k hk => ⟨trivial, fun he => by have := Kd.Q_lt h k he.symm; have := hk.2.1; omega⟩)
set_option maxHeartbeats 4000000 in
set_option maxRecDepth 100000 in
theorem reached_calls (k : Nat) (A0 : Option Addr) (c0 : Nat) (l0 : List S50) (A1 : Option Addr) (c1 : Nat) (T0 : List ByteArray) (cm : ByteArray → CmR) (w : World) (hr0 : Kd.C k50 w A0 l0.length l0) (hc0 : l0.length ≤ c0) (hG : Gt w) (hr1 : Kd.C Kd.string w A1 T0.length T0) (hT0 : T0.length ≤ 1048576) (hcm : ∀ x, impl_commitOf.f k l0 x = some (cm x)) (R : List ByteArray) (hR : reachI cm k [] T0 = some R) :
 Calls Tryz.prog 44 #[.slice A0 l0.length c0, .slice A1 T0.length c1] w fun e w' => ∃ v, e = .returned v ∧ Kd.R Kd.string 9 w' w.heap.size (fun _ => True) v (sortB R) ∧ Below w.heap.size w w' := by
 have H0 := Lib.hid hr0
 have HCM := Lib.hid (fun x (W : World) (hw : Below w.heap.size w W) => impl_commitOf.calls k A0 c0 l0 x (cm x).1 (cm x).2.1 (cm x).2.2.1 (cm x).2.2.2.1 (cm x).2.2.2.2 W (Kd.C_below hr0 hw) hc0 (hG.below hw) (hcm x))
 have HR := Lib.hid hR
 have HC := Lib.hid (cloneS A1 c1 T0 (w.alloc (.map #[] 0)) (Kd.C_below hr1 (below_alloc (Below.refl _ _) _)) zq7)
 have hba : Below w.heap.size w (w.alloc (.map #[] 0)) := below_alloc (Below.refl _ _) _
 have HBA := Lib.hid hba
 have HS0 := Lib.hid (seen_new w)
 clear hr0 hc0 hcm hR hr1 hG hba
 have hu := Tryz.underlying60
 obtain ⟨i0, hi0, _, hsz, _⟩ := info_parts info9
 have hmm := @run_makeMap Tryz.prog
 go_enter Tryz.func44, Tryz.ntmps44
 go_wp2_with (first
  | (go_at_call 66; (with_reducible refine HC.out.mono ?_); rintro e w1 ⟨v1, rfl, hoo_, hbb_⟩; obtain ⟨At, ct, rfl, hct⟩ := Kd.Q_slice hoo_; have O1 := Lib.hid (Kd.Q_lower hoo_ HBA.out.size); have S1 := Lib.hid (seen_below HS0.out hbb_); have B1 := Lib.hid (HBA.out.trans (hbb_.mono HBA.out.size)); clear hoo_ hbb_)
  | ((with_reducible refine gate_dst (N := 14) rfl ?_); refine Kd.R_lit Kd.string _ 9 ?hg (N := 14) ?hd (xs := ([] : List ByteArray)) (inner := []) (ok := fun _ => True) (okp := fun _ => True) ?hr ?hp (fun _ hk => hk) trivial (Below.refl _ _) (Nat.le_refl _) zq12 ?_; (case hd => rfl); (case hg => rfl); (case hr => first | (go_simp; done) | (go_simp; rfl)); (case hp => exact (Reps.none _ _)); intro v14 w2 hoo_ hbb_ hg_ hnew_; clear hnew_ hg_; obtain ⟨Al, cl, rfl⟩ := Kd.R_slice hoo_; have O2 := Lib.hid (Kd.R_lower (r_aside O1.out hoo_) B1.out.size); have O1' := Lib.hid (Kd.Q_below O1.out hbb_); have S2 := Lib.hid (seen_below S1.out hbb_); have B2 := Lib.hid (B1.out.trans (hbb_.mono B1.out.size)); clear hoo_ hbb_))
 clear HC HBA HS0 O1 S1 B1
 go_loopg [6, 7] k (fun kq s6 s7 wr => ∃ (T L : List ByteArray) (At : Option Addr) (ct : Nat) (Al : Option Addr) (cl : Nat), s6 = .slice At T.length ct ∧ s7 = .slice Al L.length cl ∧ Aside (Kd.Q Kd.string 9 wr w.heap.size (fun _ => True) (.slice At T.length ct) T) ∧ Aside (Kd.R Kd.string 9 wr w.heap.size (fun k_ => True ∧ some k_ ≠ (Value.slice At T.length ct).ownBlock) (.slice Al L.length cl) L) ∧ Aside (Seen wr w.heap.size L) ∧ Aside (Below w.heap.size w wr) ∧ Aside (reachI cm kq L T = some R))
 case atStart => exact ⟨T0, [], At, ct, Al, cl, rfl, rfl, O1'.out, O2.out, S2.out, B2.out, HR.out⟩
 case round =>
  clear O1' O2 S2 B2 HR
  rename World => wq
  obtain ⟨T, L, At, ct, Al, cl, rfl, rfl, OT, OL, SN, BQ, HS⟩ := hrel
  cases gk with
  | zero => exact absurd HS.out (by simp [reachI])
  | succ k1 =>
    have hS := HS.out
    clear HS
    unfold reachI at hS
    by_cases hlt : 0 < T.length
    · rw [if_pos hlt] at hS
      obtain ⟨x, hx⟩ : ∃ x, T.getD 0 ByteArray.empty = x := ⟨_, rfl⟩
      rw [hx] at hS
      by_cases hsz9 : x.size ≤ 9223372036854775807 ∧ L.length ≤ 1048576 ∧ T.length + (parsC (cm x)).length ≤ 4194304
      · rw [if_pos hsz9] at hS
        obtain ⟨hs1, hs2, hs3⟩ := hsz9
        have hltz : (0 : Int) < (T.length : Int) := by omega
        obtain ⟨ad, hA, q0⟩ := Kd.at_string (Kd.Q_reads' OT.out).2.2 (0 : Int) zq7 hltz
        subst hA
        rw [rdS0, hx, show (0 : Int).toNat = 0 from rfl, show ad.add 0 = ad from by simp [Addr.add]] at q0
        have hcut := cut_from (P := Tryz.prog) 29 9 .i64 Tryz.underlying29 hi0 1 hsz (some ad) T.length ct 1 zq7 zq7
        have hdr := Kd.Q_drop (k := 1) OT.out zq7
        have hob : (Value.slice (if ct = 1 then some ad else (some ad).map (·.add (1 * 1))) (T.length - 1) (ct - 1)).ownBlock = (Value.slice (some ad) T.length ct).ownBlock := drop_own
        rw [show (1 : Int).toNat = 1 from rfl] at hcut
        rw [show Kd.string.sz = 1 from rfl] at hdr
        generalize (if ct = 1 then some ad else (some ad).map (·.add (1 * 1))) = A2 at hcut hdr hob
        rw [← List.length_drop] at hcut hdr hob
        have hdl : (T.drop 1).length ≤ T.length := by rw [List.length_drop]; omega
        generalize ct - 1 = c2 at hcut hdr hob
        have hol : Kd.R Kd.string 9 wq w.heap.size (fun k_ => True ∧ some k_ ≠ (Value.slice A2 (T.drop 1).length c2).ownBlock) (.slice Al L.length cl) L := by rw [hob]; exact OL.out
        generalize T.drop 1 = T2 at hcut hdr hol hdl hS
        clear hob hx
        have hlook := seen_look SN.out x (by unfold maxLen; omega)
        have OT2 := Lib.hid hdr
        have OL2 := Lib.hid hol
        clear hdr hol
        have hgt : (T.length : Int) > 0 := by omega
        obtain ⟨b, hb⟩ : ∃ b, hasB L x = b := ⟨_, rfl⟩
        rw [hb] at hlook hS
        cases b with
        | true =>
          rw [if_pos rfl] at hS
          have HS := Lib.hid hS
          clear hS hb
          go_wp2
          go_roundg k1
          case measure => omega
          case rel => exact ⟨T2, L, A2, c2, Al, cl, rfl, rfl, OT2.out, OL2.out, SN.out, BQ.out, HS.out⟩
        | false =>
          rw [if_neg zq9] at hS
          have hps : parsC (cm x) = (cm x).2.1 := rfl
          rw [hps] at hS hs3
          have HCX := Lib.hid (HCM.out x)
          clear hps hb
          generalize cm x = y at HCX hS hs3
          obtain ⟨y1, ps, y3, y4, y5⟩ := y
          simp only at HCX hS hs3
          obtain ⟨K9, hK9⟩ : ∃ q, L ++ [x] = q := ⟨_, rfl⟩
          obtain ⟨T9, hT9⟩ : ∃ q, T2 ++ ps = q := ⟨_, rfl⟩
          rw [hK9, hT9] at hS
          have HK9 := Lib.hid hK9
          have HT9 := Lib.hid hT9
          have HS := Lib.hid hS
          have hq : w.heap.size ≤ wq.heap.size := BQ.out.size
          clear hS hK9 hT9
          go_wp2_with (first
           | (at_mapUpdate; refine seen_store _ rfl _ _ _ rfl w.heap.size L rfl SN.out (by unfold maxLen; omega) x rfl rfl (by unfold maxLen; omega) ?_; intro w6 hs6 hg6; rw [HK9.out] at hs6; have OT6 := Lib.hid (q_map OT2.out SN.out hg6); have OL6 := Lib.hid (r_map OL2.out SN.out hg6); have S6 := Lib.hid hs6; have B6 := Lib.hid (BQ.out.grown hg6 hq (fun k_ hk_ => Nat.le_of_eq (Option.some.inj hk_))); clear hs6 hg6)
           | ((with_reducible refine gate_builtin (b := .append) (xs := #[.tmp 28, .tmp 30]) rfl ?_); at_builtin; refine Kd.R_append Kd.string (w0 := w) w.heap.size rfl (.tmp 28) (.tmp 30) 29 9 (.string ⟨#[]⟩) 16 rfl Tryz.underlying29 info9 rfl zq9 zq9 (.slice Al L.length cl) L x [.string x] (fun k_ => True ∧ some k_ ≠ (Value.slice A2 T2.length c2).ownBlock) (fun _ => False) rfl rfl rfl (fun _ hk => hk.elim) (fun k_ hk_ => ⟨trivial, fun he_ => by have := Kd.Q_lt OT6.out k_ he_.symm; omega⟩) OL6.out B6.out B6.out.size zq7 ?_; intro v9 w9 hoo_ hbb_ hg_ hat_; rw [HK9.out] at hoo_; have OT9 := Lib.hid (q_beside OT6.out OL6.out hg_); have S9 := Lib.hid (seen_kept S6.out hg_ (seen_row OL6.out S6.out)); obtain ⟨A9, c9, rfl⟩ := Kd.R_slice hoo_; have OL9 := Lib.hid hoo_; have B9 := Lib.hid hbb_; clear hoo_ hbb_ hg_ hat_)
           | (go_at_call 42; (with_reducible refine (HCX.out w9 B9.out).mono ?_); rintro e w3 ⟨v3, rfl, hoo_, hbb_⟩; obtain ⟨A3, c3, rfl⟩ := Kd.R_slice hoo_; have O3 := Lib.hid hoo_; have B3 := Lib.hid hbb_; clear hoo_ hbb_)
           | ((with_reducible refine gate_dst (N := 9) rfl ?_); refine box_event ?hg (N := 9) ?hd (cs := #[.string (⟨#[]⟩ : ByteArray), .slice none 0 0, .int .i64 0, .string (⟨#[]⟩ : ByteArray)]) (t := 60) ?hr ?_; (case hd => rfl); (case hg => rfl); (case hr => first | (go_simp; done) | (go_simp; rfl)); intro gb hgb w4 hbox hb4; have HBX := Lib.hid hbox; have B4 := Lib.hid hb4; have HGB := Lib.hid hgb; have y0 := (blk_cell hbox 0).trans rfl; have y1' := (blk_cell hbox 1).trans rfl; have y2 := (blk_cell hbox 2).trans rfl; have y3' := (blk_cell hbox 3).trans rfl; have f0 := blk_frozen hbox 0; have f1 := blk_frozen hbox 1; have f2 := blk_frozen hbox 2; have f3 := blk_frozen hbox 3; clear hbox hb4 hgb)
           | ((with_reducible refine gate_builtin (b := .append) (xs := #[.tmp 38, .tmp 40]) rfl ?_); at_builtin; (have hgb : w3.heap.size ≤ gb := Nat.le_of_eq HGB.out.symm); (have hb35 : Below w3.heap.size w3 ((((w4.setCell ⟨gb, 0, none⟩ (.string y1)).setCell ⟨gb, 1, none⟩ (.slice A3 ps.length c3)).setCell ⟨gb, 2, none⟩ (.int .i64 y3)).setCell ⟨gb, 3, none⟩ (.string y4)) := below_set (below_set (below_set (below_set B4.out hgb) hgb) hgb) hgb); (generalize ((((w4.setCell ⟨gb, 0, none⟩ (.string y1)).setCell ⟨gb, 1, none⟩ (.slice A3 ps.length c3)).setCell ⟨gb, 2, none⟩ (.int .i64 y3)).setCell ⟨gb, 3, none⟩ (.string y4)) = w5 at hb35 ⊢); (have hb5 : Below w9.heap.size w9 w5 := B3.out.trans (hb35.mono B3.out.size)); (have OT5 := Lib.hid (Kd.Q_below OT9.out hb5)); (have OL5 := Lib.hid (Kd.R_below OL9.out hb5)); (have S5 := Lib.hid (seen_below S9.out hb5)); (have B5 := Lib.hid (B9.out.trans (hb5.mono B9.out.size))); refine Q_append_rows (w0 := w) w.heap.size rfl (.tmp 38) (.tmp 40) 29 9 (.string ⟨#[]⟩) 16 rfl Tryz.underlying29 info9 rfl zq9 (.slice A2 T2.length c2) T2 ps A3 c3 rfl rfl OT5.out (Kd.R_reads' (Kd.R_below O3.out hb35)).2.2 B5.out B5.out.size zq7 ?_; intro v8 w8 hoo_ hbb_ hg_ hat_; rw [HT9.out] at hoo_; (have OL8 := Lib.hid (Kd.R_after OL5.out hg_ hat_)); (have S8 := Lib.hid (seen_kept S5.out hg_ (seen_queue OT5.out S5.out))); obtain ⟨A8, c8, rfl, _⟩ := Kd.Q_slice hoo_; (have OT8 := Lib.hid hoo_); (have B8 := Lib.hid hbb_); clear hoo_ hbb_ hg_ hat_ hb5 hb35 hgb))
          go_roundg k1
          case measure => omega
          case rel => exact ⟨T9, K9, A8, c8, A9, c9, rfl, rfl, OT8.out, OL8.out, S8.out, B8.out, HS.out⟩
      · rw [if_neg hsz9] at hS
        cases hS
    · rw [if_neg hlt] at hS
      by_cases hs2 : L.length ≤ 1048576
      · rw [if_pos hs2] at hS
        obtain rfl : L = R := Option.some.inj hS
        clear hS
        have hgt : ¬ (T.length : Int) > 0 := by omega
        have HSO := Lib.hid (sort_own wq w.heap.size (.slice Al L.length cl) L (Kd.R_mono OL.out (fun _ _ => trivial)) zq7)
        go_wp2_with (go_at_call 67; (with_reducible refine HSO.out.mono ?_); rintro e w6 ⟨rfl, hoo_, hbb_⟩; have O6 := Lib.hid hoo_; have B6 := Lib.hid (hbb_ w w.heap.size BQ.out (Nat.le_refl _)); clear hoo_ hbb_)
        go_ret
        exact ⟨_, rfl, O6.out, B6.out⟩
      · rw [if_neg hs2] at hS
        cases hS
end Go.Proofs.YtpnoghcdfbmpoaaGreatDoor.PX.X

namespace Go.Proofs.YtpnoghcdfbmpoaaGreatDoor.PX.X
open Go Go.RowKit Go.Lib Go.Proofs.YtpnoghcdfbmpoaaGreatDoorW.PrintWords Go.Proofs.YtpnoghcdfbmpoaaGreatDoor.PX
set_option linter.unusedVariables false
theorem hasB_mem (l : List ByteArray) (s : ByteArray) : hasB l s = true ↔ s ∈ l := by
 unfold hasB
 rw [List.any_eq_true]
 constructor
 · rintro ⟨x, hx, h⟩
   exact of_decide_eq_true h ▸ hx
 · intro h
   exact ⟨s, h, decide_eq_true rfl⟩
theorem addNew_app : ∀ (a b S : List ByteArray), addNew S (a ++ b) = addNew (addNew S a) b
 | [], b, S => rfl
 | p :: a, b, S => addNew_app a b (if hasB S p = true then S else S ++ [p])
theorem addNew_pre : ∀ (a S : List ByteArray), ∃ t, addNew S a = S ++ t
 | [], S => ⟨[], (List.append_nil S).symm⟩
 | p :: a, S => by
   obtain ⟨t, ht⟩ := addNew_pre a (if hasB S p = true then S else S ++ [p])
   show ∃ t, addNew (if hasB S p = true then S else S ++ [p]) a = S ++ t
   rw [ht]
   by_cases h : hasB S p = true
   · rw [if_pos h]; exact ⟨t, rfl⟩
   · rw [if_neg h, List.append_assoc]; exact ⟨_, rfl⟩
theorem nodup_len : ∀ (L U : List ByteArray), L.Nodup → (∀ x ∈ L, x ∈ U) → L.length ≤ U.length
 | [], U, _, _ => Nat.zero_le _
 | x :: L, U, hn, hs => by
   have hn2 := List.nodup_cons.1 hn
   obtain ⟨a, b, rfl⟩ := List.append_of_mem (hs x List.mem_cons_self)
   have := nodup_len L (a ++ b) hn2.2 (fun y hy => by
    have h1 := hs y (List.mem_cons_of_mem _ hy)
    rcases List.mem_append.1 h1 with h2 | h2
    · exact List.mem_append.2 (.inl h2)
    · rcases List.mem_cons.1 h2 with h3 | h3
      · exact absurd (h3 ▸ hy) hn2.1
      · exact List.mem_append.2 (.inr h3))
   rw [List.length_append] at this
   rw [List.length_append, List.length_cons, List.length_cons]
   omega
theorem sync (cm : ByteArray → CmR) (U : List ByteArray) (hU : ∀ x, ∀ p ∈ parsC (cm x), p ∈ U) (hp3 : ∀ x, (parsC (cm x)).length ≤ 3) (hsz : ∀ p ∈ U, p.size ≤ 9223372036854775807) (N : Nat) (hN : ∀ L : List ByteArray, L.Nodup → (∀ x ∈ L, x ∈ U) → L.length ≤ N) (hN2 : N ≤ 10000) :
 ∀ (m : Nat) (L T : List ByteArray), m ≤ 100000 → L.Nodup → (∀ x ∈ L, x ∈ U) → (∀ x ∈ T, x ∈ U) → 4 * (N - L.length) + T.length ≤ m → ∀ k1 k2, m < k1 → m < k2 → ∃ R, R.Nodup ∧ (∀ x ∈ R, x ∈ U) ∧ reachI cm k1 L T = some R ∧ seenO cm k2 L.length (addNew L T) = some R := by
 intro m
 induction m with
 | zero =>
   intro L T _ hn hL hT hm k1 k2 h1 h2
   have : T = [] := List.eq_nil_of_length_eq_zero zq7
   subst this
   have hl := hN L hn hL
   obtain ⟨k1, rfl⟩ : ∃ q, k1 = q + 1 := ⟨k1 - 1, by omega⟩
   obtain ⟨k2, rfl⟩ : ∃ q, k2 = q + 1 := ⟨k2 - 1, by omega⟩
   refine ⟨L, hn, hL, ?_, ?_⟩
   · rw [reachI, if_neg zq12, if_pos zq7]
   · show seenO cm (k2 + 1) L.length L = some L
     rw [seenO, if_neg zq7, if_pos zq7]
 | succ m ih =>
   intro L T hm6 hn hL hT hm k1 k2 h1 h2
   have hl := hN L hn hL
   obtain ⟨k1, rfl⟩ : ∃ q, k1 = q + 1 := ⟨k1 - 1, by omega⟩
   cases T with
   | nil =>
     obtain ⟨k2, rfl⟩ : ∃ q, k2 = q + 1 := ⟨k2 - 1, by omega⟩
     refine ⟨L, hn, hL, ?_, ?_⟩
     · rw [reachI, if_neg zq12, if_pos zq7]
     · show seenO cm (k2 + 1) L.length L = some L
       rw [seenO, if_neg zq7, if_pos zq7]
   | cons x T =>
     have hx := hT x List.mem_cons_self
     have hT2 : ∀ y ∈ T, y ∈ U := fun y hy => hT y (List.mem_cons_of_mem _ hy)
     have hp := hp3 x
     rw [List.length_cons] at hm
     have e0 : (x :: T).getD 0 ByteArray.empty = x := rfl
     have e1 : (x :: T).drop 1 = T := rfl
     rw [reachI, if_pos zq12, e0, e1, if_pos ⟨hsz x hx, by omega, by rw [List.length_cons]; omega⟩]
     by_cases hb : hasB L x = true
     · rw [if_pos hb]
       obtain ⟨R, r1, r2, r3, r4⟩ := ih L T zq7 hn hL hT2 zq7 k1 k2 zq7 zq7
       refine ⟨R, r1, r2, r3, ?_⟩
       show seenO cm k2 L.length (addNew (if hasB L x = true then L else L ++ [x]) T) = some R
       rw [if_pos hb]
       exact r4
     · rw [if_neg hb]
       have hnx : x ∉ L := fun h => hb ((hasB_mem L x).2 h)
       have hn2 : (L ++ [x]).Nodup := by
        rw [List.nodup_append]
        exact ⟨hn, by simp, fun a ha b hb' => by
         rw [List.mem_singleton.1 hb']
         rintro rfl
         exact hnx ha⟩
       have hL2 : ∀ y ∈ L ++ [x], y ∈ U := fun y hy => (List.mem_append.1 hy).elim (hL y) (fun h => List.mem_singleton.1 h ▸ hx)
       have hl2 := hN _ hn2 hL2
       rw [List.length_append, List.length_singleton] at hl2
       obtain ⟨k2, rfl⟩ : ∃ q, k2 = q + 1 := ⟨k2 - 1, by omega⟩
       obtain ⟨R, r1, r2, r3, r4⟩ := ih (L ++ [x]) (T ++ parsC (cm x)) zq7 hn2 hL2 (fun y hy => (List.mem_append.1 hy).elim (hT2 y) (hU x y)) (by rw [List.length_append, List.length_append, List.length_singleton]; omega) k1 k2 zq7 zq7
       refine ⟨R, r1, r2, r3, ?_⟩
       show seenO cm (k2 + 1) L.length (addNew (if hasB L x = true then L else L ++ [x]) T) = some R
       rw [if_neg hb]
       rw [addNew_app, List.length_append, List.length_singleton] at r4
       obtain ⟨t, ht⟩ := addNew_pre T (L ++ [x])
       have hlen := addNew_len T (L ++ [x])
       rw [List.length_append, List.length_singleton] at hlen
       have hg : (addNew (L ++ [x]) T).getD L.length ByteArray.empty = x := by
        rw [ht, List.append_assoc, List.getD_eq_getElem?_getD, List.getElem?_append_right (Nat.le_refl _), Nat.sub_self]
        rfl
       have hlt : L.length < (addNew (L ++ [x]) T).length := by
        rw [ht, List.length_append, List.length_append, List.length_singleton]
        omega
       rw [seenO, if_pos hlt, hg, if_pos ⟨by omega, by omega⟩]
       exact r4
end Go.Proofs.YtpnoghcdfbmpoaaGreatDoor.PX.X
