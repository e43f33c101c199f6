/- Texts of this claim set one behind another by wip/bundle.py: XHistS. -/
import Derived.Test.YtpnoghcdfbmpoaaGreatDoorBLT22
import Derived.Test.YtpnoghcdfbmpoaaGreatDoorBLT17
import Derived.Test.YtpnoghcdfbmpoaaGreatDoorBLT32
import Derived.Test.YtpnoghcdfbmpoaaGreatDoorBLT16
import Derived.IntWalk
namespace Go.Proofs.YtpnoghcdfbmpoaaGreatDoor.PX.X
open Go Go.RowKit Go.Lib Go.Proofs.YtpnoghcdfbmpoaaGreatDoorW.PrintWords Go.Proofs.YtpnoghcdfbmpoaaGreatDoor.PX
set_option linter.unusedVariables false
set_option linter.unusedSimpArgs false
theorem rdS (l : List ByteArray) (i : Nat) : rdOf ByteArray.empty l (i : Int) = l.getD i ByteArray.empty := by
 show l.getD ((i : Int)).toNat _ = _
 rw [Int.toNat_natCast]
theorem drop_getS (l : List ByteArray) (i : Nat) (h : i < l.length) : l.drop i = l.getD i ByteArray.empty :: l.drop (i + 1) := by
 rw [List.getD_eq_getElem?_getD, List.getElem?_eq_getElem h, Option.getD_some]
 exact List.drop_eq_getElem_cons h
theorem has_l0 (l : List ByteArray) (s : ByteArray) (hl : l.length ≤ 4194304) : ∀ (d i : Nat), i + d = l.length → ∀ k, d < k → spec_l9Has.l0 k l s (i : Int) = some (hasB (l.drop i) s)
 | 0, i, hi, k, hk => by
   obtain ⟨k, rfl⟩ : ∃ m, k = m + 1 := ⟨k - 1, by omega⟩
   rw [spec_l9Has.l0, if_neg zq7, List.drop_eq_nil_of_le zq7]
   rfl
 | d + 1, i, hi, k, hk => by
   obtain ⟨k, rfl⟩ : ∃ m, k = m + 1 := ⟨k - 1, by omega⟩
   have hw : wrap64 ((i : Int) + 1) = ((i + 1 : Nat) : Int) := (YtpnoghcdfbmpoaaGreatDoorX.wrap_in zq7 zq7).trans zq7
   rw [spec_l9Has.l0, if_pos zq7, if_pos zq7, rdS, hw, has_l0 l s hl d (i + 1) zq7 k zq7, drop_getS l i zq7]
   by_cases he : l.getD i ByteArray.empty = s
   · rw [if_pos (congrArg ByteArray.toList he)]
     unfold hasB
     rw [List.any_cons, decide_eq_true he, Bool.true_or]
   · rw [if_neg (fun z => he (YtpnoghcdfbmpoaaGreatDoorX.toList_inj z))]
     unfold hasB
     rw [List.any_cons, decide_eq_false he, Bool.false_or]
theorem hasS (l : List ByteArray) (s : ByteArray) (hl : l.length ≤ 4194304) (k : Nat) (hk : 4194304 < k) : spec_l9Has.f k l s = some (hasB l s) := by
 have := has_l0 l s hl l.length 0 zq7 k zq7
 rw [List.drop_zero] at this
 exact this
theorem sortP_len (S : List ByteArray) : ∀ acc : List ByteArray, (S.foldl putL acc).length ≤ acc.length + S.length := by
 have hp : ∀ (l : List ByteArray) (s : ByteArray), (putL l s).length ≤ l.length + 1 := by
  intro l s
  induction l with
  | nil => exact Nat.le_refl _
  | cons x l ih =>
    show (if lessB x s = true then x :: putL l s else if x = s then x :: l else s :: x :: l).length ≤ _
    split
    · simp only [List.length_cons]; omega
    · split <;> simp only [List.length_cons] <;> omega
 induction S with
 | nil => intro acc; exact Nat.le_refl _
 | cons x S ih =>
   intro acc
   have h1 := ih (putL acc x)
   have h2 := hp acc x
   rw [List.foldl_cons, List.length_cons]
   omega
theorem addNew_ge : ∀ (ps S : List ByteArray), S.length ≤ (addNew S ps).length
 | [], S => Nat.le_refl _
 | p :: ps, S => by
   show _ ≤ (addNew (if hasB S p = true then S else S ++ [p]) ps).length
   by_cases hh : hasB S p = true
   · rw [if_pos hh]
     exact addNew_ge ps S
   · rw [if_neg hh]
     have := addNew_ge ps (S ++ [p])
     rw [List.length_append, List.length_singleton] at this
     omega
theorem kc2 {a : Addr} {v : Value} {V V' : World} (h : V.cell? a = some v) (hb : Below V.heap.size V V') : V'.cell? a = some v := (hb.cell (World.block_lt_of_cell? V _ h)).trans h
set_option maxHeartbeats 4000000 in
set_option maxRecDepth 100000 in
theorem histS_calls (k : Nat) (A0 : Option Addr) (c0 : Nat) (l0 : List S50) (id : ByteArray) (cm : ByteArray → CmR) (w : World) (hr0 : Kd.C k50 w A0 l0.length l0) (hc0 : l0.length ≤ c0) (hkb : 4194304 < k) (hcm : ∀ x, spec_l9Commit.f k l0 x = some (cm x)) (r : List ByteArray) (c : Int) (h : histS cm k id = some (r, c)) :
 Calls Tryz.prog 34 #[.slice A0 l0.length c0, .string id] w fun e w' => ∃ v, e = .returned (.tuple #[v, .int .i64 c]) ∧ Kd.R Kd.string 9 w' w.heap.size (fun _ => True) v r ∧ Below w.heap.size w w' := by
 obtain ⟨R, hR, h⟩ := Option.bind_eq_some_iff.mp h
 have H0 := Lib.hid hr0
 have HC0 := Lib.hid hc0
 have HCM := Lib.hid (fun x (W : World) (hw : Below w.heap.size w W) => spec_l9Commit.calls k A0 c0 l0 x (cm x).1 (cm x).2.1 (cm x).2.2.1 (cm x).2.2.2.1 (cm x).2.2.2.2 W (Kd.C_below hr0 hw) hc0 (hcm x))
 have HHS := Lib.hid (fun (l : List ByteArray) s (hl : l.length ≤ 4194304) => hasS l s hl k hkb)
 have HR := Lib.hid hR
 have HH := Lib.hid h
 clear hr0 hc0 hcm hR h hkb
 have hu := Tryz.underlying60
 go_enter Tryz.func34, Tryz.ntmps34
 go_wp2_with ((with_reducible refine gate_dst (N := 17) rfl ?_); refine Kd.R_lit Kd.string _ 9 ?hg (N := 17) ?hd (xs := [id]) (inner := [.string id]) (ok := fun _ => True) (okp := fun _ => True) ?hr ?hp (fun _ hk => hk) trivial (Below.refl _ _) (Nat.le_refl _) zq12 ?_; (case hd => rfl); (case hg => rfl); (case hr => first | (go_simp; done) | (go_simp; rfl)); (case hp => exact str_reps [id]); intro v17 w1 hoo_ hbb_ hg_ hnew_; clear hg_ hnew_; obtain ⟨A1, c1, rfl⟩ := Kd.R_slice hoo_; have O1 := Lib.hid hoo_; have B1 := Lib.hid hbb_; clear hoo_ hbb_)
 go_loopg [6, 7] k (fun kq s6 s7 wr => ∃ (i : Nat) (S : List ByteArray) (A : Option Addr) (c : Nat), s6 = .slice A S.length c ∧ s7 = .int .i64 i ∧ i ≤ S.length ∧ Aside (Kd.R Kd.string 9 wr w.heap.size (fun _ => True) (.slice A S.length c) S) ∧ Aside (Below w.heap.size w wr) ∧ Aside (seenO cm kq i S = some R))
 case atStart => exact ⟨0, [id], A1, c1, rfl, rfl, Nat.zero_le _, O1.out, B1.out, HR.out⟩
 case round =>
  clear O1 B1 HR
  rename World => wq
  obtain ⟨i, S, A, c', rfl, rfl, hi, OS, BQ, HS⟩ := hrel
  cases gk with
  | zero => exact absurd HS.out (by simp [seenO])
  | succ k1 =>
    have hS := HS.out
    clear HS
    unfold seenO at hS
    by_cases hlt : i < S.length
    · rw [if_pos hlt] at hS
      by_cases hsz : S.length ≤ 1048576 ∧ (parsC (cm (S.getD i ByteArray.empty))).length ≤ 1048576
      · rw [if_pos hsz] at hS
        obtain ⟨hs1, hs2⟩ := hsz
        have hiz : (0 : Int) ≤ (i : Int) := Int.natCast_nonneg i
        have hil : (i : Int) < (S.length : Int) := by omega
        obtain ⟨ad, hA, q0⟩ := Kd.at_string (Kd.R_reads' OS.out).2.2 (i : Int) hiz hil
        subst hA
        rw [rdS, Int.toNat_natCast] at q0
        obtain ⟨x, hx⟩ : ∃ x, S.getD i ByteArray.empty = x := ⟨_, rfl⟩
        rw [hx] at q0 hS hs2
        have HCX := Lib.hid (HCM.out x)
        clear hx
        have hps : parsC (cm x) = (cm x).2.1 := rfl
        rw [hps] at hS hs2
        clear hps
        generalize cm x = y at HCX hS hs2
        obtain ⟨y1, ps, y3, y4, y5⟩ := y
        simp only at HCX hS hs2
        have HSS := Lib.hid hS
        clear hS
        go_wp2_with (first
         | (go_at_call 40; (with_reducible refine (HCX.out wq BQ.out).mono ?_); rintro e w3 ⟨v3, rfl, hoo_, hbb_⟩; obtain ⟨A3, c3, rfl⟩ := Kd.R_slice hoo_; have O3 := Lib.hid hoo_; have B3 := Lib.hid hbb_; clear hoo_ hbb_)
         | ((with_reducible refine gate_dst (N := 8) rfl ?_); refine box_event ?hg (N := 8) ?hd (cs := #[.string (⟨#[]⟩ : ByteArray), .slice none 0 0, .int .i64 0, .string (⟨#[]⟩ : ByteArray)]) (t := 60) ?hr ?_; (case hd => rfl); (case hg => rfl); (case hr => first | (go_simp; done) | (go_simp; rfl)); intro gb hgb w4 hbox hb4; have HBX := Lib.hid hbox; have B4 := Lib.hid hb4; have HGB := Lib.hid hgb; have y0 := (blk_cell hbox 0).trans rfl; have y1' := (blk_cell hbox 1).trans rfl; have y2 := (blk_cell hbox 2).trans rfl; have y3' := (blk_cell hbox 3).trans rfl; have f0 := blk_frozen hbox 0; have f1 := blk_frozen hbox 1; have f2 := blk_frozen hbox 2; have f3 := blk_frozen hbox 3; clear hbox hb4 hgb))
        have hgb : w3.heap.size ≤ gb := Nat.le_of_eq HGB.out.symm
        have hbk : ((((w4.setCell ⟨gb, 0, none⟩ (.string y1)).setCell ⟨gb, 1, none⟩ (.slice A3 ps.length c3)).setCell ⟨gb, 2, none⟩ (.int .i64 y3)).setCell ⟨gb, 3, none⟩ (.string y4)).heap[gb]? = some (.cells #[.string y1, .slice A3 ps.length c3, .int .i64 y3, .string y4] 60 (0, 0)) := blk_put (cs := #[.string y1, .slice A3 ps.length c3, .int .i64 y3, .string ⟨#[]⟩]) (blk_put (cs := #[.string y1, .slice A3 ps.length c3, .int .i64 0, .string ⟨#[]⟩]) (blk_put (cs := #[.string y1, .slice none 0 0, .int .i64 0, .string ⟨#[]⟩]) (blk_put (cs := #[.string ⟨#[]⟩, .slice none 0 0, .int .i64 0, .string ⟨#[]⟩]) HBX.out 0 (.string y1) rfl) 1 (.slice A3 ps.length c3) rfl) 2 (.int .i64 y3) rfl) 3 (.string y4) rfl
        have hb35 : Below w3.heap.size w3 ((((w4.setCell ⟨gb, 0, none⟩ (.string y1)).setCell ⟨gb, 1, none⟩ (.slice A3 ps.length c3)).setCell ⟨gb, 2, none⟩ (.int .i64 y3)).setCell ⟨gb, 3, none⟩ (.string y4)) := below_set (below_set (below_set (below_set B4.out hgb) hgb) hgb) hgb
        generalize ((((w4.setCell ⟨gb, 0, none⟩ (.string y1)).setCell ⟨gb, 1, none⟩ (.slice A3 ps.length c3)).setCell ⟨gb, 2, none⟩ (.int .i64 y3)).setCell ⟨gb, 3, none⟩ (.string y4)) = w5 at hbk hb35 ⊢
        have hb5 : Below wq.heap.size wq w5 := B3.out.trans (hb35.mono B3.out.size)
        have HBK := Lib.hid hbk
        have B5 := Lib.hid (BQ.out.trans (hb5.mono BQ.out.size))
        have OS5 := Lib.hid (Kd.R_below OS.out hb5)
        have OP5 := Lib.hid (Kd.R_mono (ok' := fun k_ => True ∧ some k_ ≠ (Value.slice (some ad) S.length c').ownBlock) (Kd.R_bound (Kd.R_below O3.out hb35)) (fun k_ hk => ⟨trivial, fun he => by have h1 := Kd.R_lt OS.out k_ he.symm; have h2 := hk.2.1; omega⟩))
        clear hgb hbk hb35 hb5 y0 y1' y2 y3' f0 f1 f2 f3 q0 HBX B4 HGB O3 B3 OS BQ
        go_loopg [6, 10] ps.length (fun gg s6 s10 wr => ∃ (j : Nat) (S2 : List ByteArray) (A2 : Option Addr) (c2 : Nat), s6 = .slice A2 S2.length c2 ∧ s10 = .int .i64 j ∧ j ≤ ps.length ∧ ps.length - j ≤ gg ∧ S2.length ≤ S.length + j ∧ Aside (Kd.R Kd.string 9 wr w.heap.size (fun _ => True) (.slice A2 S2.length c2) S2) ∧ Aside (Kd.R Kd.string 9 wr wq.heap.size (fun k_ => True ∧ some k_ ≠ (Value.slice A2 S2.length c2).ownBlock) (.slice A3 ps.length c3) ps) ∧ Aside (wr.heap[gb]? = some (.cells #[.string y1, .slice A3 ps.length c3, .int .i64 y3, .string y4] 60 (0, 0))) ∧ Aside (Below w.heap.size w wr) ∧ Aside (addNew S2 (ps.drop j) = addNew S ps))
        case atStart => exact ⟨0, S, some ad, c', rfl, rfl, Nat.zero_le _, by omega, by omega, OS5.out, OP5.out, HBK.out, B5.out, rfl⟩
        case round =>
         clear OS5 OP5 HBK B5
         rename World => wp
         obtain ⟨j, S2, A2, c2, rfl, rfl, hj, hg2, hl2, OS2, OP2, HB2, BP, HAD⟩ := hrel
         have x1 : wp.cell? ⟨gb, 1, none⟩ = some (.slice A3 ps.length c3) := (blk_cell HB2.out 1).trans rfl
         by_cases hj2 : j < ps.length
         · have hjz : (0 : Int) ≤ (j : Int) := Int.natCast_nonneg j
           have hjl : (j : Int) < (ps.length : Int) := by omega
           obtain ⟨a3, hA3, p0⟩ := Kd.at_string (Kd.R_reads' OP2.out).2.2 (j : Int) hjz hjl
           subst hA3
           rw [rdS, Int.toNat_natCast] at p0
           have hd := drop_getS ps j hj2
           obtain ⟨x, hx⟩ : ∃ x, ps.getD j ByteArray.empty = x := ⟨_, rfl⟩
           rw [hx] at p0 hd
           obtain ⟨b, hb⟩ : ∃ b, hasB S2 x = b := ⟨_, rfl⟩
           have HSB := Lib.hid (show spec_l9Has.f k S2 x = some b from hb ▸ HHS.out S2 x zq7)
           have had : addNew S2 (ps.drop j) = addNew (if b = true then S2 else S2 ++ [x]) (ps.drop (j + 1)) := by rw [hd, ← hb]; rfl
           have HAE := Lib.hid (had.symm.trans HAD.out)
           have HCAP := Lib.hid (Kd.R_reads' OS2.out).2.1
           clear hd hx hb had HAD
           cases b with
           | true =>
             go_wp2_with (go_at_call 57; (with_reducible refine (spec_l9Has.calls k A2 c2 S2 x _ wp (Kd.R_reads' OS2.out).2.2 HCAP.out HSB.out).mono ?_); rintro e w6 ⟨rfl, hdr⟩; have hb6 := hdr.below; have x1' := kc2 x1 hb6; have p0' := kc2 p0 hb6; have OS6 := Lib.hid (Kd.R_below OS2.out hb6); have OP6 := Lib.hid (Kd.R_below OP2.out hb6); have HB6 := Lib.hid (blk_below HB2.out hb6); have B6 := Lib.hid (BP.out.trans (hb6.mono BP.out.size)); clear hdr hb6)
             go_roundg (ps.length - (j + 1))
             case measure => omega
             case rel => exact ⟨j + 1, S2, A2, c2, rfl, by go_num, by omega, by omega, by omega, OS6.out, OP6.out, HB6.out, B6.out, HAE.out⟩
           | false =>
             go_wp2_with (first | (go_at_call 57; (with_reducible refine (spec_l9Has.calls k A2 c2 S2 x _ wp (Kd.R_reads' OS2.out).2.2 HCAP.out HSB.out).mono ?_); rintro e w6 ⟨rfl, hdr⟩; have hb6 := hdr.below; have x1' := kc2 x1 hb6; have p0' := kc2 p0 hb6; have OS6 := Lib.hid (Kd.R_below OS2.out hb6); have OP6 := Lib.hid (Kd.R_below OP2.out hb6); have HB6 := Lib.hid (blk_below HB2.out hb6); have B6 := Lib.hid (BP.out.trans (hb6.mono BP.out.size)); clear hdr hb6) | ((with_reducible refine gate_builtin (b := .append) (xs := #[.tmp 48, .tmp 54]) rfl ?_); at_builtin; refine Kd.R_append Kd.string (w0 := w) w.heap.size rfl (.tmp 48) (.tmp 54) 29 9 (.string ⟨#[]⟩) 16 rfl Tryz.underlying29 info9 rfl zq9 zq9 (.slice A2 S2.length c2) S2 x [.string x] (fun _ => True) (fun _ => False) rfl rfl rfl (fun _ hk => hk.elim) (fun _ _ => trivial) OS6.out B6.out B6.out.size zq7 ?_; intro v9 w9 hoo_ hbb_ hg_ hat_; obtain ⟨K9, hK9⟩ : ∃ q, S2 ++ [x] = q := ⟨_, rfl⟩; rw [hK9] at hoo_; have HK9 := Lib.hid hK9; have HLEN := Lib.hid (show K9.length = S2.length + 1 from (by rw [← hK9, List.length_append, List.length_singleton])); clear hK9; have OP9' := Kd.R_after OP6.out hg_ hat_; have HB9 := Lib.hid (blk_grown HB6.out hg_ (Kd.R_ne OS6.out HB6.out zq9)); obtain ⟨A9, c9, rfl⟩ := Kd.R_slice hoo_; have OP9 := Lib.hid OP9'; have O9 := Lib.hid hoo_; have B9 := Lib.hid hbb_; clear hoo_ hbb_ hg_ hat_ OP9'))
             have hae := HAE.out
             rw [if_neg zq9, HK9.out] at hae
             have HAF := Lib.hid hae
             clear hae
             go_roundg (ps.length - (j + 1))
             case measure => omega
             case rel => exact ⟨j + 1, K9, A9, c9, rfl, by go_num, by omega, by omega, by have := HLEN.out; omega, O9.out, OP9.out, HB9.out, B9.out, HAF.out⟩
         · have hje : j = ps.length := by omega
           subst hje
           have hS2 : S2 = addNew S ps := by rw [← HAD.out, List.drop_length]; rfl
           have hge := addNew_ge ps S
           rw [← hS2] at hge
           have HS2 := Lib.hid (hS2 ▸ HSS.out)
           clear hS2 HAD
           go_wp2
           go_roundg k1
           case measure => omega
           case rel => exact ⟨i + 1, S2, A2, c2, rfl, by go_num, by omega, OS2.out, BP.out, HS2.out⟩
      · rw [if_neg hsz] at hS
        cases hS
    · rw [if_neg hlt] at hS
      by_cases hsz : S.length ≤ 1048576
      · rw [if_pos hsz] at hS
        obtain rfl : S = R := Option.some.inj hS
        clear hS hi
        have hh := HH.out
        clear HH
        by_cases h100 : S.length > 100
        · rw [if_pos h100] at hh
          obtain ⟨hr1, hr2⟩ := Prod.mk.inj (Option.some.inj hh)
          subst hr1 hr2
          have hgt : (S.length : Int) > 100 := by omega
          have hgt2 : decide ((100 : Int) < (S.length : Int)) = true := decide_eq_true zq7
          have hgt3 : decide (100 < S.length) = true := decide_eq_true zq7
          clear hh
          go_wp2
          go_ret2
          exact ⟨_, rfl, Kd.R_nil _ _ _ _ _, BQ.out⟩
        · rw [if_neg h100] at hh
          have hgt : ¬ (S.length : Int) > 100 := by omega
          have hgt2 : decide ((100 : Int) < (S.length : Int)) = false := decide_eq_false zq7
          have hgt3 : decide (100 < S.length) = false := decide_eq_false zq7
          have HH := Lib.hid hh
          clear hh
          go_wp2_with ((with_reducible refine gate_dst (N := 59) rfl ?_); refine Kd.R_lit Kd.string _ 9 ?hg (N := 59) ?hd (xs := ([] : List ByteArray)) (inner := []) (ok := fun _ => True) (okp := fun _ => True) ?hr ?hp (fun _ hk => hk) trivial (Below.refl _ _) (Nat.le_refl _) zq12 ?_; (case hd => rfl); (case hg => rfl); (case hr => first | (go_simp; done) | (go_simp; rfl)); (case hp => exact (Reps.none _ _)); intro v59 w7 hoo_ hbb_ hg_ hnew_; clear hg_ hnew_; obtain ⟨A7, c7, rfl⟩ := Kd.R_slice hoo_; have O7 := Lib.hid hoo_; have B7 := Lib.hid hbb_; clear hoo_ hbb_)
          clear hgt hgt2 hgt3
          go_loopg [11, 12] S.length (fun gg s11 s12 wr => ∃ (j : Nat) (L : List ByteArray) (A2 : Option Addr) (c2 : Nat), s11 = .slice A2 L.length c2 ∧ s12 = .int .i64 j ∧ j ≤ S.length ∧ S.length - j ≤ gg ∧ L.length ≤ j ∧ Aside (Kd.R Kd.string 9 wr wq.heap.size (fun _ => True) (.slice A2 L.length c2) L) ∧ Aside (Below wq.heap.size wq wr) ∧ Aside ((S.drop j).foldl putL L = sortP S))
          case atStart => exact ⟨0, [], A7, c7, rfl, rfl, Nat.zero_le _, by omega, Nat.le_refl _, O7.out, B7.out, rfl⟩
          case round =>
           clear O7 B7
           rename World => wp
           obtain ⟨j, L, A2, c2, rfl, rfl, hj, hg2, hLj, OL, BP, HL⟩ := hrel
           by_cases hj2 : j < S.length
           · have hjz : (0 : Int) ≤ (j : Int) := Int.natCast_nonneg j
             have hjl : (j : Int) < (S.length : Int) := by omega
             obtain ⟨a3, hA3, p0⟩ := Kd.at_string (Kd.R_reads' (Kd.R_below OS.out BP.out)).2.2 (j : Int) hjz hjl
             subst hA3
             rw [rdS, Int.toNat_natCast] at p0
             have hd := drop_getS S j hj2
             obtain ⟨x, hx⟩ : ∃ x, S.getD j ByteArray.empty = x := ⟨_, rfl⟩
             rw [hx] at p0 hd
             have hfl := HL.out
             rw [hd, List.foldl_cons] at hfl
             have hpl := sortP_len [x] L
             rw [show ([x] : List ByteArray).foldl putL L = putL L x from rfl, List.length_singleton] at hpl
             obtain ⟨L9, hL9⟩ : ∃ q, putL L x = q := ⟨_, rfl⟩
             have HPC := Lib.hid (put_calls wq.heap.size (.slice A2 L.length c2) L x wp OL.out BP.out.size zq7)
             rw [hL9] at hfl hpl HPC
             have HFL := Lib.hid hfl
             have HPL := Lib.hid hpl
             clear hd hx hfl hpl hL9 HL
             go_wp2_with (go_at_call 60; (with_reducible refine HPC.out.mono ?_); rintro e w6 ⟨v6, rfl, hoo_, hbb_⟩; obtain ⟨A6, c6, rfl⟩ := Kd.R_slice hoo_; have O6 := Lib.hid hoo_; have B6 := Lib.hid (BP.out.trans (hbb_.mono BP.out.size)); clear hoo_ hbb_)
             go_roundg (S.length - (j + 1))
             case measure => omega
             case rel => exact ⟨j + 1, L9, A6, c6, rfl, by go_num, by omega, by omega, by have := HPL.out; omega, O6.out, B6.out, HFL.out⟩
           · have hje : j = S.length := by omega
             subst hje
             have hL : L = sortP S := by rw [← HL.out, List.drop_length]; rfl
             have hh := HH.out
             rw [← hL] at hh
             have HH2 := Lib.hid hh
             clear hL HL HH hh
             go_wp2
             go_loopg [13] L.length (fun gg s13 wr => ∃ (j : Nat), s13 = .int .i64 j ∧ j ≤ L.length ∧ L.length - j ≤ gg ∧ Aside (Below wp.heap.size wp wr) ∧ Aside (chkC cm (L.drop j) = chkC cm L))
             case atStart => exact ⟨0, rfl, Nat.zero_le _, by omega, Below.refl _ _, rfl⟩
             case round =>
              rename World => wz
              obtain ⟨j, rfl, hj3, hg3, BZ, HCK⟩ := hrel
              have BWZ := Lib.hid (BQ.out.trans ((BP.out.trans (BZ.out.mono BP.out.size)).mono BQ.out.size))
              by_cases hj4 : j < L.length
              · have hjz : (0 : Int) ≤ (j : Int) := Int.natCast_nonneg j
                have hjl : (j : Int) < (L.length : Int) := by omega
                obtain ⟨a3, hA3, p0⟩ := Kd.at_string (Kd.R_reads' (Kd.R_below OL.out BZ.out)).2.2 (j : Int) hjz hjl
                subst hA3
                rw [rdS, Int.toNat_natCast] at p0
                have hd := drop_getS L j hj4
                obtain ⟨x, hx⟩ : ∃ x, L.getD j ByteArray.empty = x := ⟨_, rfl⟩
                rw [hx] at p0 hd
                have hck : chkC cm (L.drop j) = if codeC (cm x) = 0 then chkC cm (L.drop (j + 1)) else codeC (cm x) := by rw [hd]; rfl
                have hck2 := hck.symm.trans HCK.out
                have HCX := Lib.hid (HCM.out x)
                rw [show codeC (cm x) = (cm x).2.2.2.2 from rfl] at hck2
                clear hd hx hck HCK
                generalize cm x = y at HCX hck2
                obtain ⟨y1, ps, y3, y4, y5⟩ := y
                simp only at HCX hck2
                have HC2 := Lib.hid hck2
                clear hck2
                by_cases hz : y5 = 0
                · have hz1 : (y5 != 0) = false := bne_eq_false_iff_eq.mpr hz
                  go_wp2_with (first
                   | (go_at_call 40; (with_reducible refine (HCX.out wz BWZ.out).mono ?_); rintro e w3 ⟨v3, rfl, hoo_, hbb_⟩; obtain ⟨A3, c3, rfl⟩ := Kd.R_slice hoo_; have B3 := Lib.hid hbb_; clear hoo_ hbb_)
                   | ((with_reducible refine gate_dst (N := 14) rfl ?_); refine box_event ?hg (N := 14) ?hd (cs := #[.string (⟨#[]⟩ : ByteArray), .slice none 0 0, .int .i64 0, .string (⟨#[]⟩ : ByteArray)]) (t := 60) ?hr ?_; (case hd => rfl); (case hg => rfl); (case hr => first | (go_simp; done) | (go_simp; rfl)); intro gb hgb w4 hbox hb4; have B4 := Lib.hid hb4; have HGB := Lib.hid hgb; have y0 := (blk_cell hbox 0).trans rfl; have y1' := (blk_cell hbox 1).trans rfl; have y2 := (blk_cell hbox 2).trans rfl; have y3' := (blk_cell hbox 3).trans rfl; have f0 := blk_frozen hbox 0; have f1 := blk_frozen hbox 1; have f2 := blk_frozen hbox 2; have f3 := blk_frozen hbox 3; clear hbox hb4 hgb))
                  have hgb : w3.heap.size ≤ gb := Nat.le_of_eq HGB.out.symm
                  have hb35 : Below w3.heap.size w3 ((((w4.setCell ⟨gb, 0, none⟩ (.string y1)).setCell ⟨gb, 1, none⟩ (.slice A3 ps.length c3)).setCell ⟨gb, 2, none⟩ (.int .i64 y3)).setCell ⟨gb, 3, none⟩ (.string y4)) := below_set (below_set (below_set (below_set B4.out hgb) hgb) hgb) hgb
                  generalize ((((w4.setCell ⟨gb, 0, none⟩ (.string y1)).setCell ⟨gb, 1, none⟩ (.slice A3 ps.length c3)).setCell ⟨gb, 2, none⟩ (.int .i64 y3)).setCell ⟨gb, 3, none⟩ (.string y4)) = w5 at hb35 ⊢
                  have B5 := Lib.hid (BZ.out.trans ((B3.out.trans (hb35.mono B3.out.size)).mono BZ.out.size))
                  have BW5 := Lib.hid (BWZ.out.trans ((B3.out.trans (hb35.mono B3.out.size)).mono BWZ.out.size))
                  clear hgb hb35 y0 y1' y2 y3' f0 f1 f2 f3 p0 HGB B4
                  have hc2 := HC2.out
                  rw [if_pos hz] at hc2
                  have HC3 := Lib.hid hc2
                  clear hc2
                  go_roundg (L.length - (j + 1))
                  case measure => omega
                  case rel => exact ⟨j + 1, by go_num, by omega, by omega, B5.out, HC3.out⟩
                · have hz1 : (y5 != 0) = true := bne_iff_ne.mpr hz
                  go_wp2_with (first
                   | (go_at_call 40; (with_reducible refine (HCX.out wz BWZ.out).mono ?_); rintro e w3 ⟨v3, rfl, hoo_, hbb_⟩; obtain ⟨A3, c3, rfl⟩ := Kd.R_slice hoo_; have B3 := Lib.hid hbb_; clear hoo_ hbb_)
                   | ((with_reducible refine gate_dst (N := 14) rfl ?_); refine box_event ?hg (N := 14) ?hd (cs := #[.string (⟨#[]⟩ : ByteArray), .slice none 0 0, .int .i64 0, .string (⟨#[]⟩ : ByteArray)]) (t := 60) ?hr ?_; (case hd => rfl); (case hg => rfl); (case hr => first | (go_simp; done) | (go_simp; rfl)); intro gb hgb w4 hbox hb4; have B4 := Lib.hid hb4; have HGB := Lib.hid hgb; have y0 := (blk_cell hbox 0).trans rfl; have y1' := (blk_cell hbox 1).trans rfl; have y2 := (blk_cell hbox 2).trans rfl; have y3' := (blk_cell hbox 3).trans rfl; have f0 := blk_frozen hbox 0; have f1 := blk_frozen hbox 1; have f2 := blk_frozen hbox 2; have f3 := blk_frozen hbox 3; clear hbox hb4 hgb))
                  have hgb : w3.heap.size ≤ gb := Nat.le_of_eq HGB.out.symm
                  have hb35 : Below w3.heap.size w3 ((((w4.setCell ⟨gb, 0, none⟩ (.string y1)).setCell ⟨gb, 1, none⟩ (.slice A3 ps.length c3)).setCell ⟨gb, 2, none⟩ (.int .i64 y3)).setCell ⟨gb, 3, none⟩ (.string y4)) := below_set (below_set (below_set (below_set B4.out hgb) hgb) hgb) hgb
                  generalize ((((w4.setCell ⟨gb, 0, none⟩ (.string y1)).setCell ⟨gb, 1, none⟩ (.slice A3 ps.length c3)).setCell ⟨gb, 2, none⟩ (.int .i64 y3)).setCell ⟨gb, 3, none⟩ (.string y4)) = w5 at hb35 ⊢
                  have B5 := Lib.hid (BZ.out.trans ((B3.out.trans (hb35.mono B3.out.size)).mono BZ.out.size))
                  have BW5 := Lib.hid (BWZ.out.trans ((B3.out.trans (hb35.mono B3.out.size)).mono BWZ.out.size))
                  clear hgb hb35 y0 y1' y2 y3' f0 f1 f2 f3 p0 HGB B4
                  have hc2 := HC2.out
                  rw [if_neg hz] at hc2
                  have hh := HH2.out
                  rw [← hc2, if_neg hz] at hh
                  obtain ⟨hr1, hr2⟩ := Prod.mk.inj (Option.some.inj hh)
                  subst hr1 hr2
                  clear hc2 hh hz
                  go_ret2
                  exact ⟨_, rfl, Kd.R_nil _ _ _ _ _, BW5.out⟩
              · have hje : j = L.length := by omega
                subst hje
                have hc0 : chkC cm L = 0 := by rw [← HCK.out, List.drop_length]; rfl
                have hh := HH2.out
                rw [hc0, if_pos rfl] at hh
                obtain ⟨hr1, hr2⟩ := Prod.mk.inj (Option.some.inj hh)
                subst hr1 hr2
                clear hh hc0
                go_wp2
                go_ret2
                exact ⟨_, rfl, Kd.R_lower (Kd.R_below OL.out BZ.out) BQ.out.size, BWZ.out⟩
      · rw [if_neg hsz] at hS
        cases hS
end Go.Proofs.YtpnoghcdfbmpoaaGreatDoor.PX.X
