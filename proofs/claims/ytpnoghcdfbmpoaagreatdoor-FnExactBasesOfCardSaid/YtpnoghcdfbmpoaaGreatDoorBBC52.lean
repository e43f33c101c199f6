/- Texts of this claim set one behind another by wip/bundle.py: XBasO, XBasE, PXf48, PXf23, PXf6, XBasV, XLawBasesOf. -/
import Derived.Test.YtpnoghcdfbmpoaaGreatDoorBBC38
import Derived.Test.YtpnoghcdfbmpoaaGreatDoorBBC51
import Derived.Test.YtpnoghcdfbmpoaaGreatDoorBBC17
import Derived.Test.YtpnoghcdfbmpoaaGreatDoorBBC35
import Derived.Test.YtpnoghcdfbmpoaaGreatDoorBBC16
import Derived.IntWalk
import Derived.Test.YtpnoghcdfbmpoaaGreatDoorBBC9
import Derived.Test.YtpnoghcdfbmpoaaGreatDoorBBC15
import Derived.Test.YtpnoghcdfbmpoaaGreatDoorBBC41
namespace Go.Proofs.YtpnoghcdfbmpoaaGreatDoor.PX.X
open Go Go.RowKit Go.Lib Go.Proofs.YtpnoghcdfbmpoaaGreatDoorW.PrintWords Go.Proofs.YtpnoghcdfbmpoaaGreatDoor.PX
set_option linter.unusedVariables false
set_option linter.unusedSimpArgs false
def bothV (X Y : List ByteArray) : List ByteArray := X.filter fun x => !(!hasB Y x)
def bestP (anc : ByteArray → ByteArray → Bool) (B : List ByteArray) (x : ByteArray) : Bool := B.any fun o => decide (o ≠ x) && anc x o
def bestV (anc : ByteArray → ByteArray → Bool) (B : List ByteArray) : List ByteArray := B.filter fun x => !bestP anc B x
set_option maxHeartbeats 4000000 in
set_option maxRecDepth 100000 in
theorem bases_bad (k : Nat) (A0 : Option Addr) (c0 : Nat) (l0 : List S50) (a b : ByteArray) (X Y : List ByteArray) (c1 c2 c : Int) (w : World) (hr0 : Kd.C k50 w A0 l0.length l0) (hc0 : l0.length ≤ c0) (hG : Gt w)
 (hx : impl_historyOf.f k l0 a = some (X, c1)) (hy : impl_historyOf.f k l0 b = some (Y, c2)) (hf : impl_firstCode.f k [c1, c2] = some c) (hz : ¬ c = 0) :
 Calls Tryz.prog 48 #[.slice A0 l0.length c0, .string a, .string b] w fun e w' => ∃ v, e = .returned (.tuple #[v, .int .i64 c]) ∧ Kd.R Kd.string 9 w' w.heap.size (fun _ => True) v [] ∧ Below w.heap.size w w' := by
 have HX := Lib.hid (fun (W : World) (hw : Below w.heap.size w W) => impl_historyOf.calls k A0 c0 l0 a X c1 W (Kd.C_below hr0 hw) hc0 (hG.below hw) hx)
 have HY := Lib.hid (fun (W : World) (hw : Below w.heap.size w W) => impl_historyOf.calls k A0 c0 l0 b Y c2 W (Kd.C_below hr0 hw) hc0 (hG.below hw) hy)
 have HF := Lib.hid (fun A cc W hr hc => impl_firstCode.calls k A cc [c1, c2] c W hr hc hf)
 have z1 : (c == 0) = false := beq_eq_false_iff_ne.mpr hz
 have z2 : (c != 0) = true := bne_iff_ne.mpr hz
 clear hr0 hc0 hG hx hy hf hz
 go_enter Tryz.func48, Tryz.ntmps48
 go_wp2_with (first
  | ((with_reducible refine gate_dst (N := 3) rfl ?_); refine box_event ?hg (N := 3) ?hd (cs := #[.slice A0 l0.length c0]) (t := 25) ?hr ?_; (case hd => rfl); (case hg => rfl); (case hr => first | (go_simp; done) | (go_simp; rfl)); intro gs hgs w1 hbox1 hb1; have s1 : w1.cell? ⟨gs, 0, none⟩ = some (.slice A0 l0.length c0) := (blk_cell hbox1 0).trans rfl; have B1 := Lib.hid hb1; clear hbox1 hb1 hgs)
  | (go_at_call 35; first
      | ((with_reducible refine (HX.out w1 B1.out).mono ?_); rintro e w2 ⟨v2, rfl, hoo_, hbb_⟩; have s2 : w2.cell? ⟨gs, 0, none⟩ = some (.slice A0 l0.length c0) := kc2 s1 hbb_; obtain ⟨A2, d2, rfl⟩ := Kd.R_slice hoo_; have O2 := Lib.hid hoo_; have B2 := Lib.hid (B1.out.trans (hbb_.mono B1.out.size)); clear hoo_ hbb_)
      | ((with_reducible refine (HY.out w2 B2.out).mono ?_); rintro e w3 ⟨v3, rfl, hoo_, hbb_⟩; obtain ⟨A3, d3, rfl⟩ := Kd.R_slice hoo_; have O3 := Lib.hid hoo_; have B3 := Lib.hid (B2.out.trans (hbb_.mono B2.out.size)); clear hoo_ hbb_))
  | ((with_reducible refine gate_dst (N := 31) rfl ?_); refine Kd.R_lit (Kd.int .i64) _ 2 ?hg (N := 31) ?hd (xs := ([c1, c2] : List Int)) (inner := [.int .i64 c1, .int .i64 c2]) (ok := fun _ => True) (okp := fun _ => True) ?hr ?hp (fun _ hk => hk) trivial (Below.refl _ _) (Nat.le_refl _) zq13 ?_; (case hd => rfl); (case hg => rfl); (case hr => first | (go_simp; done) | (go_simp; rfl)); (case hp => exact (Reps.one (show Kd.M (Kd.int .i64) _ _ _ c1 [.int .i64 c1] from rfl) (Reps.one (show Kd.M (Kd.int .i64) _ _ _ c2 [.int .i64 c2] from rfl) (Reps.none _ _)))); intro v4 w4 hoo_ hbb_ hg_ hnew_; clear hg_ hnew_; have y4 := blk_below (blk_new w3 (.cells #[.slice A3 Y.length d3] 29)) hbb_; have b34 := (below_alloc (Below.refl w3.heap.size w3) (.cells #[.slice A3 Y.length d3] 29)).trans (hbb_.mono (Nat.le_of_lt zq13)); obtain ⟨A4, d4, rfl⟩ := Kd.R_slice hoo_; have O4 := Lib.hid hoo_; have Y4 := Lib.hid y4; have B34 := Lib.hid b34; clear hoo_ hbb_ y4 b34)
  | (go_at_call 68; (refine (HF.out A4 d4 w4 (Kd.R_reads' O4.out).2.2 (Kd.R_reads' O4.out).2.1).mono ?_); rintro e w5 ⟨rfl, hd_⟩; have hb5 := hd_.below; have Y5 := Lib.hid (blk_below Y4.out hb5); have b35 := B34.out.trans (hb5.mono B34.out.size); have B35 := Lib.hid b35; have B5 := Lib.hid (B3.out.trans (b35.mono B3.out.size)); clear hd_ hb5 b35))
 go_ret2
 exact ⟨_, rfl, Kd.R_nil _ _ _ _ _, B5.out⟩
theorem best_sub (X Y : List ByteArray) : ∀ x ∈ bothV X Y, x ∈ X := fun x hx => (List.mem_filter.1 hx).1
theorem both_len (X Y : List ByteArray) : (bothV X Y).length ≤ X.length := List.length_filter_le _ _
set_option maxHeartbeats 4000000 in
set_option maxRecDepth 100000 in
theorem bases_good (k : Nat) (A0 : Option Addr) (c0 : Nat) (l0 : List S50) (a b : ByteArray) (X Y : List ByteArray) (c1 c2 c : Int) (anc : ByteArray → ByteArray → Bool) (w : World) (hr0 : Kd.C k50 w A0 l0.length l0) (hc0 : l0.length ≤ c0) (hG : Gt w)
 (hx : impl_historyOf.f k l0 a = some (X, c1)) (hy : impl_historyOf.f k l0 b = some (Y, c2)) (hf : impl_firstCode.f k [c1, c2] = some c) (hz : c = 0)
 (hanc : ∀ x o, x ∈ X → o ∈ X → impl_isAncestor.f k l0 x o = some (anc x o)) (hcon : ∀ x, slices_Contains_string_string.f k Y x = some (hasB Y x)) (hX : X.length ≤ 1048576) (hY : Y.length ≤ 1048576) :
 Calls Tryz.prog 48 #[.slice A0 l0.length c0, .string a, .string b] w fun e w' => ∃ v, e = .returned (.tuple #[v, .int .i64 c]) ∧ Kd.R Kd.string 9 w' w.heap.size (fun _ => True) v (bestV anc (bothV X Y)) ∧ Below w.heap.size w w' := by
 subst hz
 have HX := Lib.hid (fun (W : World) (hw : Below w.heap.size w W) => impl_historyOf.calls k A0 c0 l0 a X c1 W (Kd.C_below hr0 hw) hc0 (hG.below hw) hx)
 have HY := Lib.hid (fun (W : World) (hw : Below w.heap.size w W) => impl_historyOf.calls k A0 c0 l0 b Y c2 W (Kd.C_below hr0 hw) hc0 (hG.below hw) hy)
 have HF := Lib.hid (fun A cc W hr hc => impl_firstCode.calls k A cc [c1, c2] 0 W hr hc hf)
 have HL2 := Lib.hid (fun (x o : ByteArray) (hx : x ∈ X) (ho : o ∈ X) (gi gs : Nat) (W : World) (hw : Below w.heap.size w W) (hi : W.cell? ⟨gi, 0, none⟩ = some (.string x)) (hs : W.cell? ⟨gs, 0, none⟩ = some (.slice A0 l0.length c0)) => litB2 k o x A0 c0 l0 gi gs W hi hs (Kd.C_below hr0 hw) hc0 (hG.below hw) (anc x o) (fun _ => hanc x o hx ho))
 have HL1 := Lib.hid (fun (x : ByteArray) (A : Option Addr) (cc gy : Nat) (W : World) (hc : W.cell? ⟨gy, 0, none⟩ = some (.slice A Y.length cc)) (hY : Kd.C Kd.string W A Y.length Y) (hcap : Y.length ≤ cc) => litB1 k x Y A cc gy W hc hY hcap (hasB Y x) (hcon x))
 clear hr0 hc0 hG hx hy hf hanc hcon
 have hB := both_len X Y
 have HSUB := Lib.hid (best_sub X Y)
 go_enter Tryz.func48, Tryz.ntmps48
 go_wp2_with (first
  | ((with_reducible refine gate_dst (N := 3) rfl ?_); refine box_event ?hg (N := 3) ?hd (cs := #[.slice A0 l0.length c0]) (t := 25) ?hr ?_; (case hd => rfl); (case hg => rfl); (case hr => first | (go_simp; done) | (go_simp; rfl)); intro gs hgs w1 hbox1 hb1; have s1 : w1.cell? ⟨gs, 0, none⟩ = some (.slice A0 l0.length c0) := (blk_cell hbox1 0).trans rfl; have B1 := Lib.hid hb1; have S1 := Lib.hid s1; clear hbox1 hb1 hgs)
  | (go_at_call 35; first
      | ((with_reducible refine (HX.out w1 B1.out).mono ?_); rintro e w2 ⟨v2, rfl, hoo_, hbb_⟩; have s2 : w2.cell? ⟨gs, 0, none⟩ = some (.slice A0 l0.length c0) := kc2 s1 hbb_; obtain ⟨A2, d2, rfl⟩ := Kd.R_slice hoo_; have O2 := Lib.hid hoo_; have B2 := Lib.hid (B1.out.trans (hbb_.mono B1.out.size)); have B12 := Lib.hid hbb_; clear hoo_ hbb_)
      | ((with_reducible refine (HY.out w2 B2.out).mono ?_); rintro e w3 ⟨v3, rfl, hoo_, hbb_⟩; obtain ⟨A3, d3, rfl⟩ := Kd.R_slice hoo_; have O3 := Lib.hid hoo_; have B3 := Lib.hid (B2.out.trans (hbb_.mono B2.out.size)); have B23 := Lib.hid hbb_; clear hoo_ hbb_))
  | ((with_reducible refine gate_dst (N := 31) rfl ?_); refine Kd.R_lit (Kd.int .i64) _ 2 ?hg (N := 31) ?hd (xs := ([c1, c2] : List Int)) (inner := [.int .i64 c1, .int .i64 c2]) (ok := fun _ => True) (okp := fun _ => True) ?hr ?hp (fun _ hk => hk) trivial (Below.refl _ _) (Nat.le_refl _) zq13 ?_; (case hd => rfl); (case hg => rfl); (case hr => first | (go_simp; done) | (go_simp; rfl)); (case hp => exact (Reps.one (show Kd.M (Kd.int .i64) _ _ _ c1 [.int .i64 c1] from rfl) (Reps.one (show Kd.M (Kd.int .i64) _ _ _ c2 [.int .i64 c2] from rfl) (Reps.none _ _)))); intro v4 w4 hoo_ hbb_ hg_ hnew_; clear hg_ hnew_; have y4 := blk_below (blk_new w3 (.cells #[.slice A3 Y.length d3] 29)) hbb_; have b34 := (below_alloc (Below.refl w3.heap.size w3) (.cells #[.slice A3 Y.length d3] 29)).trans (hbb_.mono (Nat.le_of_lt zq13)); obtain ⟨A4, d4, rfl⟩ := Kd.R_slice hoo_; have O4 := Lib.hid hoo_; have Y4 := Lib.hid y4; have B34 := Lib.hid b34; clear hoo_ hbb_ y4 b34)
  | (go_at_call 68; (refine (HF.out A4 d4 w4 (Kd.R_reads' O4.out).2.2 (Kd.R_reads' O4.out).2.1).mono ?_); rintro e w5 ⟨rfl, hd_⟩; have hb5 := hd_.below; have Y5 := Lib.hid (blk_below Y4.out hb5); have b35 := B34.out.trans (hb5.mono B34.out.size); have B35 := Lib.hid b35; have B5 := Lib.hid (B3.out.trans (b35.mono B3.out.size)); clear hd_ hb5 b35)
  | (go_at_call 69; (with_reducible refine (del_own (fun x => !hasB Y x) 70 _ b1_eg w5 w1.heap.size (.slice A2 X.length d2) X (Kd.R_below O2.out (B23.out.trans (B35.out.mono B23.out.size))) (Nat.le_trans (Nat.le_trans B12.out.size B23.out.size) B35.out.size) zq6 (fun W g x hg hW hsz => (by
      have hgl := Kd.R_lt O2.out g hg
      have hgy := B23.out.size
      have hy3 := (Array.getElem?_eq_some_iff.1 Y5.out).1
      have hRY := Kd.R_below O3.out B35.out
      have hRW := Kd.R_step (w1 := W) (Kd.R_bound hRY) (fun k_ hk_ hlt_ => hW k_ hlt_ (by have := hk_.2.1; omega))
      exact HL1.out x A3 d3 w3.heap.size W ((blk_cell ((hW w3.heap.size hy3 zq6).trans Y5.out) 0).trans rfl) (Kd.R_reads' hRW).2.2 (Kd.R_reads' hRW).2.1))).mono ?_); rintro e w6 ⟨v6, rfl, hoo_, hbb_⟩; have hoo2_ : Kd.R Kd.string 9 w6 w1.heap.size (fun _ => True) v6 (bothV X Y) := hoo_; obtain ⟨A6, d6, rfl⟩ := Kd.R_slice hoo2_; have O6 := Lib.hid hoo2_; have b16 := hbb_ w1 w1.heap.size (B12.out.trans ((B23.out.trans (B35.out.mono B23.out.size)).mono B12.out.size)) (Nat.le_refl _); have B16 := Lib.hid b16; have S6 := Lib.hid (kc2 S1.out b16); clear hoo_ hoo2_ hbb_ b16)
  | ((with_reducible refine gate_dst (N := 39) rfl ?_); refine Kd.R_lit Kd.string _ 9 ?hg (N := 39) ?hd (xs := ([] : List ByteArray)) (inner := []) (ok := fun _ => True) (okp := fun _ => True) ?hr ?hp (fun _ hk => hk) trivial (Below.refl _ _) (Nat.le_refl _) zq13 ?_; (case hd => rfl); (case hg => rfl); (case hr => first | (go_simp; done) | (go_simp; rfl)); (case hp => exact (Reps.none _ _)); intro v7 w7 hoo_ hbb_ hg_ hnew_; clear hnew_ hg_; obtain ⟨A7, d7, rfl⟩ := Kd.R_slice hoo_; have O7 := Lib.hid hoo_; have B7 := Lib.hid hbb_; clear hoo_ hbb_))
 have C6 := Lib.hid (Kd.R_reads' O6.out).2.2
 have B6 := Lib.hid (B1.out.trans (B16.out.mono B1.out.size))
 clear HX HY HF HL1 B12 B23 B34 B35 B2 B3 B5 Y4 Y5 O2 O3 O4 O6
 generalize hBB : bothV X Y = B at C6 HSUB hB ⊢
 have HBB := Lib.hid hBB
 clear hBB
 go_loopg [14, 42] B.length (fun gg s14 s42 wr => ∃ (i : Nat) (L : List ByteArray) (A : Option Addr) (cl : Nat), s14 = .slice A L.length cl ∧ s42 = .int .i64 i ∧ i ≤ B.length ∧ B.length - i ≤ gg ∧ L.length ≤ i ∧ Aside (L = (B.take i).filter fun x => !bestP anc B x) ∧ Aside (Kd.R Kd.string 9 wr w6.heap.size (fun _ => True) (.slice A L.length cl) L) ∧ Aside (Below w6.heap.size w6 wr))
 case atStart => exact ⟨0, [], A7, d7, rfl, rfl, Nat.zero_le _, by omega, Nat.zero_le _, rfl, O7.out, B7.out⟩
 case round =>
  clear O7 B7
  rename World => wq
  obtain ⟨i, L, A, cl, rfl, rfl, hi, hgg, hLi, HL, OL, BQ⟩ := hrel
  by_cases hlt : i < B.length
  · have hiz : (0 : Int) ≤ (i : Int) := Int.natCast_nonneg i
    have hil : (i : Int) < (B.length : Int) := by omega
    obtain ⟨ad, hA, q0⟩ := Kd.at_string (Kd.C_below C6.out BQ.out) (i : Int) hiz hil
    subst hA
    rw [rdS, Int.toNat_natCast] at q0
    have hmem : B.getD i ByteArray.empty ∈ B := by
     rw [List.getD_eq_getElem?_getD, List.getElem?_eq_getElem hlt, Option.getD_some]
     exact List.getElem_mem hlt
    have htake : B.take (i + 1) = B.take i ++ [B.getD i ByteArray.empty] := by
     rw [List.take_succ_eq_append_getElem hlt, List.getD_eq_getElem?_getD, List.getElem?_eq_getElem hlt, Option.getD_some]
    generalize B.getD i ByteArray.empty = x at q0 hmem htake
    have HTK := Lib.hid htake
    clear htake
    have bq := below_alloc (Below.refl wq.heap.size wq) (.cells #[.string x] 9)
    have bw : Below w.heap.size w (wq.alloc (.cells #[.string x] 9)) := (B6.out.trans (BQ.out.mono B6.out.size)).trans (bq.mono (Nat.le_trans B6.out.size BQ.out.size))
    have hic : (wq.alloc (.cells #[.string x] 9)).cell? ⟨wq.heap.size, 0, none⟩ = some (.string x) := (blk_cell (blk_new wq _) 0).trans rfl
    have hsc := kc2 (kc2 S6.out BQ.out) bq
    have hcall := conS (fun o => decide (o ≠ x) && anc x o) 72 #[.pointer (some ⟨wq.heap.size, 0, none⟩), .pointer (some ⟨gs, 0, none⟩)] b2_eg B (some ad) d6 (wq.alloc (.cells #[.string x] 9)) (fun W o ho hW => (HL2.out x o (HSUB.out x hmem) (HSUB.out o ho) wq.heap.size gs W (bw.trans (hW.mono bw.size)) (kc2 hic hW) (kc2 hsc hW)).mono fun e w' ⟨he, hb⟩ => ⟨he, hW.trans (hb.mono hW.size)⟩) (Kd.C_below (Kd.C_below C6.out BQ.out) bq) zq6
    obtain ⟨q, hq⟩ : ∃ q, bestP anc B x = q := ⟨_, rfl⟩
    rw [show (B.any fun o => decide (o ≠ x) && anc x o) = q from hq] at hcall
    have HCALL := Lib.hid hcall
    have HIC := Lib.hid hic
    have HBQ := Lib.hid bq
    have HQ := Lib.hid hq
    clear hcall hic hsc bq bw hmem hq
    cases q with
    | true =>
      go_wp2_with (go_at_call 71; (with_reducible refine HCALL.out.mono ?_); rintro e w9 ⟨rfl, hb9⟩; have B9 := Lib.hid hb9; clear hb9)
      go_roundg (B.length - (i + 1))
      case measure => omega
      case rel =>
       have b9 := HBQ.out.trans (B9.out.mono HBQ.out.size)
       exact ⟨i + 1, L, A, cl, rfl, by go_num, by omega, by omega, by omega, (show Aside _ from by rw [HTK.out, List.filter_append, show [x].filter (fun x => !bestP anc B x) = [] from by simp [HQ.out], List.append_nil]; exact HL.out), Kd.R_below OL.out b9, BQ.out.trans (b9.mono BQ.out.size)⟩
    | false =>
      go_wp2_with (first
       | (go_at_call 71; (with_reducible refine HCALL.out.mono ?_); rintro e w9 ⟨rfl, hb9⟩; have x9 := kc2 HIC.out hb9; have b9 := HBQ.out.trans (hb9.mono HBQ.out.size); have OL9 := Lib.hid (Kd.R_below OL.out b9); have B9 := Lib.hid (BQ.out.trans (b9.mono BQ.out.size)); clear hb9 b9)
       | ((with_reducible refine gate_builtin (b := .append) (xs := #[.tmp 50, .tmp 52]) rfl ?_); at_builtin; refine Kd.R_append Kd.string (w0 := w6) w6.heap.size rfl (.tmp 50) (.tmp 52) 29 9 (.string ⟨#[]⟩) 16 rfl Tryz.underlying29 info9 rfl zq10 zq10 (.slice A L.length cl) L x [.string x] (fun _ => True) (fun _ => False) rfl rfl rfl (fun _ hk => hk.elim) (fun _ _ => trivial) OL9.out B9.out B9.out.size zq6 ?_; intro v10 w10 hoo_ hbb_ hg_ hat_; clear hg_ hat_; obtain ⟨L9, hL9⟩ : ∃ q, L ++ [x] = q := ⟨_, rfl⟩; rw [hL9] at hoo_; have HL9 := Lib.hid hL9; obtain ⟨A10, d10, rfl⟩ := Kd.R_slice hoo_; have O10 := Lib.hid hoo_; have B10 := Lib.hid hbb_; clear hoo_ hbb_ hL9))
      go_roundg (B.length - (i + 1))
      case measure => omega
      case rel =>
       exact ⟨i + 1, L9, A10, d10, rfl, by go_num, by omega, by omega, by rw [← HL9.out, List.length_append, List.length_singleton]; omega, (show Aside _ from by rw [HTK.out, List.filter_append, show [x].filter (fun x => !bestP anc B x) = [x] from by simp [HQ.out], ← HL9.out]; exact congrArg (· ++ [x]) HL.out), O10.out, B10.out⟩
  · have hil : ¬ (i : Int) < (B.length : Int) := by omega
    have hie : i = B.length := by omega
    have HIE := Lib.hid hie
    clear hie
    go_wp2
    go_ret2
    have e : L = bestV anc B := by
     have := HL.out
     rw [HIE.out, List.take_length] at this
     exact this
    refine ⟨_, rfl, ?_, B6.out.trans (BQ.out.mono B6.out.size)⟩
    rw [HBB.out, ← e]
    exact Kd.R_lower OL.out B6.out.size
end Go.Proofs.YtpnoghcdfbmpoaaGreatDoor.PX.X

namespace Go.Proofs.YtpnoghcdfbmpoaaGreatDoor.PX.X
open Go Go.RowKit Go.Lib Go.Proofs.YtpnoghcdfbmpoaaGreatDoorW.PrintWords Go.Proofs.YtpnoghcdfbmpoaaGreatDoor.PX Go.Proofs.YtpnoghcdfbmpoaaGreatDoorX
set_option linter.unusedVariables false
def histI (l : List IObj) (a : ByteArray) : List ByteArray × Int := (impl_historyOf.f 9000301 l a).getD ([], 5)
def ancI (l : List IObj) (a b : ByteArray) : Bool := (impl_isAncestor.f 9000301 l a b).getD false
theorem histI_all {l : List IObj} (h : okO l) (a : ByteArray) (ha : a.size ≤ 9223372036854775807) : (∀ k, 9000300 < k → impl_historyOf.f k l a = some (histI l a) ∧ spec_l9History.f k l a = some (histI l a)) ∧ (histI l a).1.length ≤ 100 ∧ (histI l a).1.Nodup ∧ (¬ (histI l a).2 = 0 → (histI l a).1 = []) ∧ ∀ x ∈ (histI l a).1, x.size ≤ 9223372036854775807 := by
 obtain ⟨V, h1, h2⟩ := hist_all l h a ha
 have e : histI l a = V := by unfold histI; rw [(h1 9000301 zq6).1]; rfl
 rw [e]
 exact ⟨h1, h2⟩
theorem ancI_all {l : List IObj} (h : okO l) (a b : ByteArray) (hb : b.size ≤ 9223372036854775807) (k : Nat) (hk : 9000300 < k) : impl_isAncestor.f k l a b = some (ancI l a b) ∧ spec_l9Ancestor.f k l a b = some (ancI l a b) := by
 obtain ⟨v, h1⟩ := anc_all l h a b hb
 have e : ancI l a b = v := by unfold ancI; rw [(h1 9000301 zq6).1]; rfl
 rw [e]
 exact h1 k hk
def basC (l : List IObj) (a b : ByteArray) : Int := if (histI l a).2 = 0 then (histI l b).2 else (histI l a).2
def basV (l : List IObj) (a b : ByteArray) : List ByteArray := bestV (ancI l) (bothV (histI l a).1 (histI l b).1)
def basF (k : Nat) (l : List IObj) (a b : ByteArray) : Option (List ByteArray × Int) := if 9000300 < k ∧ okO l ∧ a.size ≤ 9223372036854775807 ∧ b.size ≤ 9223372036854775807 then some (if basC l a b = 0 then basV l a b else [], basC l a b) else none
theorem code_two (k : Nat) (hk : 3 < k) (c1 c2 : Int) : impl_firstCode.f k [c1, c2] = some (if c1 = 0 then c2 else c1) := by
 obtain ⟨k, rfl⟩ : ∃ m, k = m + 4 := ⟨k - 4, by omega⟩
 unfold impl_firstCode.f
 rw [impl_firstCode.l0, if_pos zq13, if_pos zq13, if_pos zq13, show rd [c1, c2] 0 = c1 from rfl]
 by_cases h1 : c1 = 0
 · rw [if_pos h1, if_pos h1, show wrap64 (0 + 1) = 1 from (wrap_in zq6 zq6).trans zq6, impl_firstCode.l0, if_pos zq13, if_pos zq13, if_pos zq13, show rd [c1, c2] 1 = c2 from rfl]
   by_cases h2 : c2 = 0
   · rw [if_pos h2, h2, show wrap64 (1 + 1) = 2 from (wrap_in zq6 zq6).trans zq6, impl_firstCode.l0, if_neg zq13]
   · rw [if_neg h2]
 · rw [if_neg h1, if_neg h1]
theorem has_con (k : Nat) (hk : 1048577 < k) (Y : List ByteArray) (hY : Y.length ≤ 1048576) (x : ByteArray) : slices_Contains_string_string.f k Y x = some (hasB Y x) := by
 obtain ⟨bv, h1, h2⟩ := contains_tells Y x zq6 k zq6
 rw [h1, Bool.eq_iff_iff.2 (h2.trans (hasB_mem Y x).symm)]
theorem basF_calls (k : Nat) (A0 : Option Addr) (c0 : Nat) (l0 : List S50) (a b : ByteArray) (r1 : List ByteArray) (r2 : Int) (w : World) (hr0 : Kd.C k50 w A0 l0.length l0) (hc0 : l0.length ≤ c0) (hG : Gt w) (h : basF k l0 a b = some (r1, r2)) :
 Calls Tryz.prog 48 #[.slice A0 l0.length c0, .string a, .string b] w fun e w' => ∃ v0_ : Value, e = .returned (.tuple #[v0_, .int .i64 r2]) ∧ Kd.R Kd.string 9 w' w.heap.size (fun _ => True) v0_ r1 ∧ Below w.heap.size w w' := by
 unfold basF at h
 by_cases hk : 9000300 < k ∧ okO l0 ∧ a.size ≤ 9223372036854775807 ∧ b.size ≤ 9223372036854775807
 · rw [if_pos hk] at h
   obtain ⟨hk1, hok, ha, hb⟩ := hk
   obtain ⟨q1, q2, q3, q4, q5⟩ := histI_all hok a ha
   obtain ⟨p1, p2, _, _, _⟩ := histI_all hok b hb
   have hf := code_two k zq6 (histI l0 a).2 (histI l0 b).2
   obtain ⟨rfl, rfl⟩ := Prod.mk.inj (Option.some.inj h)
   by_cases hz : basC l0 a b = 0
   · rw [if_pos hz]
     exact bases_good k A0 c0 l0 a b (histI l0 a).1 (histI l0 b).1 (histI l0 a).2 (histI l0 b).2 _ (ancI l0) w hr0 hc0 hG (q1 k hk1).1 (p1 k hk1).1 hf hz (fun x o _ ho => (ancI_all hok x o (q5 o ho) k hk1).1) (fun x => has_con k zq6 _ zq6 x) zq6 zq6
   · rw [if_neg hz]
     exact bases_bad k A0 c0 l0 a b (histI l0 a).1 (histI l0 b).1 (histI l0 a).2 (histI l0 b).2 _ w hr0 hc0 hG (q1 k hk1).1 (p1 k hk1).1 hf hz
 · rw [if_neg hk] at h
   cases h
end Go.Proofs.YtpnoghcdfbmpoaaGreatDoor.PX.X

namespace Go.Proofs.YtpnoghcdfbmpoaaGreatDoor.PX
open Go.RowKit Go.Proofs.YtpnoghcdfbmpoaaGreatDoorW.PrintWords Go.Proofs.YtpnoghcdfbmpoaaGreatDoorW.PrintLast Go.Proofs.YtpnoghcdfbmpoaaGreatDoorW.PrintMore
attribute [local go_sem] max2_int min2_int max_two min_two max_three min_three max_four min_four   -- for this text's walks alone
set_option linter.unusedVariables false
set_option linter.unusedSimpArgs false
def impl_basesOf.f (k : Nat) (l0 : List (S50)) (a1 : ByteArray) (a2 : ByteArray) : Option (List ByteArray × Int) := X.basF k l0 a1 a2
theorem impl_basesOf.calls (k : Nat) (A0 : Option Addr) (c0 : Nat) (l0 : List (S50)) (a1 : ByteArray) (a2 : ByteArray) (r1 : List ByteArray) (r2 : Int) (w : World) (hr0 : Kd.C k50 w A0 l0.length l0) (hc0 : l0.length ≤ c0) (hG : Gt w) (h : impl_basesOf.f k l0 a1 a2 = some (r1, r2)) :
  Calls Tryz.prog 48 #[.slice A0 l0.length c0, .string a1, .string a2] w fun e w' => ∃ v0_ : Value, e = .returned (.tuple #[v0_, .int .i64 r2]) ∧ Kd.R Kd.string 9 w' w.heap.size (fun _ => True) v0_ r1 ∧ Below w.heap.size w w' := X.basF_calls k A0 c0 l0 a1 a2 r1 r2 w hr0 hc0 hG h
def impl_BasesOf.f (k : Nat) (l0 : List (S50)) (a1 : ByteArray) (a2 : ByteArray) : Option (Int × List ByteArray) := (impl_StoreFault.f k l0).bind fun t611 => (if t611 = 0 then ((impl_basesOf.f k l0 a1 a2).bind fun bt612 => (some (bt612.2, bt612.1))) else (some (t611, ([] : List ByteArray))))
set_option maxHeartbeats 8000000 in
set_option maxRecDepth 100000 in
theorem impl_BasesOf.calls (k : Nat) (A0 : Option Addr) (c0 : Nat) (l0 : List (S50)) (a1 : ByteArray) (a2 : ByteArray) (r1 : Int) (r2 : List ByteArray) (w : World) (hr0 : Kd.C k50 w A0 l0.length l0) (hc0 : l0.length ≤ c0) (hG : Gt w) (h : impl_BasesOf.f k l0 a1 a2 = some (r1, r2)) :
  Calls Tryz.prog 23 #[.slice A0 l0.length c0, .string a1, .string a2] w fun e w' => ∃ v1_ : Value, e = .returned (.agg #[.int .i64 r1, v1_]) ∧ Kd.R Kd.string 9 w' w.heap.size (fun _ => True) v1_ r2 ∧ Below w.heap.size w w' := by
 have HG := zK hG
 clear hG
 have hu31 := Tryz.underlying31
 have HR0 := zK hr0
 have HC0 := zK hc0
 clear hr0 hc0
 have HB := zK (Below.refl w.heap.size w)
 have H : ((impl_StoreFault.f k l0).bind fun t611 => (if t611 = 0 then ((impl_basesOf.f k l0 a1 a2).bind fun bt612 => (some (bt612.2, bt612.1))) else (some (t611, ([] : List ByteArray))))) = some (r1, r2) := h
 clear h
 replace H := Option.bind_eq_some_iff.mp H
 obtain ⟨t611, A40, H⟩ := H
 replace H : (if t611 = 0 then ((impl_basesOf.f k l0 a1 a2).bind fun bt612 => (some (bt612.2, bt612.1))) else (some (t611, ([] : List ByteArray)))) = some (r1, r2) := H
 have A4 := zK A40
 clear A40
 by_cases c5 : t611 = 0
 ·
  rw [if_pos c5] at H
  have c5b0 : (t611 == 0) = true := beq_iff_eq.mpr c5
  have c5b1 : (t611 != 0) = false := bne_eq_false_iff_eq.mpr c5
  clear c5
  replace H := Option.bind_eq_some_iff.mp H
  obtain ⟨⟨t612, t613⟩, A60, H⟩ := H
  replace H : (some (t613, t612)) = some (r1, r2) := H
  have A6 := zK A60
  clear A60
  simp only [Option.some.injEq, Prod.mk.injEq] at H
  obtain ⟨rfl, rfl⟩ := H
  go_enter Tryz.func23, Tryz.ntmps23
  go_wp2_with (first | ((with_reducible refine gate_dst (N := 6) rfl ?_); refine box_event ?hg (N := 6) ?hd (cs := #[.int .i64 0, .slice none 0 0]) (t := 31) ?hr ?_; (case hd => rfl); (case hg => rfl); (case hr => first | (go_simp; done) | (go_simp; rfl)); intro gb610 hg w7 hbox hb; have n0_ := zK (below_step zq0 hb); have n1_ := zK (hbox); have n2_ := zK ((by rw [hg]; exact (below_size zq0) : w.heap.size ≤ gb610)); have n3_ := zK ((by rw [hg]; exact (below_size zq0) : w.heap.size ≤ gb610)); clear HB; have HB := n0_; have BK610 := n1_; have GW610 := n2_; have GE610 := n3_; clear n0_ n1_ n2_ n3_; clear hb hbox hg) | ((with_reducible refine gate_callee (f := 31) rfl ?_); refine goesL_ (some 11) rfl rfl Tryz.func31 zq5 rfl #[.slice A0 l0.length c0] rfl zq1 ?_; (with_reducible refine (impl_StoreFault.calls k _ _ l0 t611 _ ?side1 ?side2 (Gt.below HG.out (by repeat (first | (with_reducible first | exact HB.out | apply zA | apply zN | apply zD | refine below_set ?_ GE610.out) | exact HB.out))) A4.out).mono ?_); (case side1 => repeat (first | exact (Kd.C_below HR0.out HB.out) | (with_reducible refine Kd.C_alloc ?_ _) | (with_reducible refine Kd.C_drewN ?_ _) | (with_reducible refine Kd.C_drew ?_))); (case side2 => exact HC0.out); rintro e w8 ⟨rfl, hb⟩; refine ⟨_, rfl, ?_⟩; have n0_ := zK (blk_below (g := gb610) (o := .cells #[.int .i64 0, .slice none 0 0] 31 (0, 0)) (by (with_reducible repeat (first | refine zM ?_ _ | refine zP ?_ | refine zQ ?_ _)); exact BK610.out) hb); have n1_ := zK (below_step (by repeat (first | (with_reducible first | exact HB.out | apply zA | apply zN | apply zD | refine below_set ?_ GE610.out) | exact HB.out)) hb); clear BK610; clear HB; have BK610 := n0_; have HB := n1_; clear n0_ n1_; (try clear hb); (try clear hb2); (try clear hk); (try clear hi)) | ((with_reducible refine gate_callee (f := 48) rfl ?_); refine goesL_ (some 20) rfl rfl Tryz.func48 zq5 rfl #[.slice A0 l0.length c0, .string a1, .string a2] rfl zq1 ?_; (with_reducible refine (impl_basesOf.calls k _ _ l0 a1 a2 t612 t613 _ ?side1 ?side2 (Gt.below HG.out (by repeat (first | (with_reducible first | exact HB.out | apply zA | apply zN | apply zD | refine below_set ?_ GE610.out) | exact HB.out))) A6.out).mono ?_); (case side1 => repeat (first | exact (Kd.C_below HR0.out HB.out) | (with_reducible refine Kd.C_alloc ?_ _) | (with_reducible refine Kd.C_drewN ?_ _) | (with_reducible refine Kd.C_drew ?_))); (case side2 => exact HC0.out); rintro e w9 ⟨v614, rfl, ho0, hb⟩; refine ⟨_, rfl, ?_⟩; have n0_ := zK (Kd.R_lower ho0 (below_size (by repeat (first | (with_reducible first | exact HB.out | apply zA | apply zN | apply zD | refine below_set ?_ GE610.out) | exact HB.out)))); have n1_ := zK (blk_below (g := gb610) (o := .cells #[.int .i64 0, .slice none 0 0] 31 (0, 0)) (by (with_reducible repeat (first | refine zM ?_ _ | refine zP ?_ | refine zQ ?_ _)); exact BK610.out) hb); have n2_ := zK (below_step (by repeat (first | (with_reducible first | exact HB.out | apply zA | apply zN | apply zD | refine below_set ?_ GE610.out) | exact HB.out)) hb); clear BK610; clear HB; have HO615 := n0_; have BK610 := n1_; have HB := n2_; clear n0_ n1_ n2_; (try clear hb); (try clear hb2); (try clear hk); (try clear hi); (try clear ho0); obtain ⟨Ao10, co10, eo10⟩ := Kd.R_slice HO615.out; subst eo10; have hcz11_0 : w9.cell? ⟨gb610, 0, none⟩ = some (.int .i64 0) := (blk_cell BK610.out 0).trans rfl; have hcz11_1 : w9.cell? ⟨gb610, 1, none⟩ = some (.slice none 0 0) := (blk_cell BK610.out 1).trans rfl; have hfz11_0 := blk_frozen BK610.out 0; have hfz11_1 := blk_frozen BK610.out 1))
  refine bodyPost_ret (results_cell_row rfl _ _ gb610 31 #[.int .i64 t613, .slice Ao10 t612.length co10] (0, 0) _ rfl (by (with_reducible repeat (first | refine zM ?_ _ | refine zP ?_ | refine zQ ?_ _)); refine blk_put (cs := #[.int .i64 t613, .slice none 0 0]) ?_ 1 _ rfl; (with_reducible repeat (first | refine zM ?_ _ | refine zP ?_ | refine zQ ?_ _)); refine blk_put (cs := #[.int .i64 0, .slice none 0 0]) ?_ 0 _ rfl; (with_reducible repeat (first | refine zM ?_ _ | refine zP ?_ | refine zQ ?_ _)); exact BK610.out) Tryz.underlying31 rfl zq5) rfl ?_
  exact ⟨_, zq3, (by (with_reducible repeat (first | apply zR | apply zV | apply zW)); exact Kd.R_mono (Kd.R_far (p := ⟨gb610, 1, none⟩) (Kd.R_far (p := ⟨gb610, 0, none⟩) (Kd.R_types HO615.out BK610.out zq10) (fun _ hk => hk.2) (.int .i64 t613)) (fun _ hk => hk.2) (.slice Ao10 t612.length co10)) (fun _ hk => trivial)), (by repeat (first | (with_reducible first | exact HB.out | apply zA | apply zN | apply zD | refine below_set ?_ GE610.out) | exact HB.out))⟩
 rw [if_neg c5] at H
 have c5b0 : (t611 == 0) = false := beq_eq_false_iff_ne.mpr c5
 have c5b1 : (t611 != 0) = true := bne_iff_ne.mpr c5
 simp only [Option.some.injEq, Prod.mk.injEq] at H
 obtain ⟨rfl, rfl⟩ := H
 go_enter Tryz.func23, Tryz.ntmps23
 go_wp2_with (first | ((with_reducible refine gate_dst (N := 6) rfl ?_); refine box_event ?hg (N := 6) ?hd (cs := #[.int .i64 0, .slice none 0 0]) (t := 31) ?hr ?_; (case hd => rfl); (case hg => rfl); (case hr => first | (go_simp; done) | (go_simp; rfl)); intro gb610 hg w12 hbox hb; have n0_ := zK (below_step zq0 hb); have n1_ := zK (hbox); have n2_ := zK ((by rw [hg]; exact (below_size zq0) : w.heap.size ≤ gb610)); have n3_ := zK ((by rw [hg]; exact (below_size zq0) : w.heap.size ≤ gb610)); clear HB; have HB := n0_; have BK610 := n1_; have GW610 := n2_; have GE610 := n3_; clear n0_ n1_ n2_ n3_; clear hb hbox hg) | ((with_reducible refine gate_callee (f := 31) rfl ?_); refine goesL_ (some 11) rfl rfl Tryz.func31 zq5 rfl #[.slice A0 l0.length c0] rfl zq1 ?_; (with_reducible refine (impl_StoreFault.calls k _ _ l0 t611 _ ?side1 ?side2 (Gt.below HG.out (by repeat (first | (with_reducible first | exact HB.out | apply zA | apply zN | apply zD | refine below_set ?_ GE610.out) | exact HB.out))) A4.out).mono ?_); (case side1 => repeat (first | exact (Kd.C_below HR0.out HB.out) | (with_reducible refine Kd.C_alloc ?_ _) | (with_reducible refine Kd.C_drewN ?_ _) | (with_reducible refine Kd.C_drew ?_))); (case side2 => exact HC0.out); rintro e w13 ⟨rfl, hb⟩; refine ⟨_, rfl, ?_⟩; have n0_ := zK (blk_below (g := gb610) (o := .cells #[.int .i64 0, .slice none 0 0] 31 (0, 0)) (by (with_reducible repeat (first | refine zM ?_ _ | refine zP ?_ | refine zQ ?_ _)); exact BK610.out) hb); have n1_ := zK (below_step (by repeat (first | (with_reducible first | exact HB.out | apply zA | apply zN | apply zD | refine below_set ?_ GE610.out) | exact HB.out)) hb); clear BK610; clear HB; have BK610 := n0_; have HB := n1_; clear n0_ n1_; (try clear hb); (try clear hb2); (try clear hk); (try clear hi); have hcz14_0 : w13.cell? ⟨gb610, 0, none⟩ = some (.int .i64 0) := (blk_cell BK610.out 0).trans rfl; have hcz14_1 : w13.cell? ⟨gb610, 1, none⟩ = some (.slice none 0 0) := (blk_cell BK610.out 1).trans rfl; have hfz14_0 := blk_frozen BK610.out 0; have hfz14_1 := blk_frozen BK610.out 1))
 refine bodyPost_ret (results_cell_row rfl _ _ gb610 31 #[.int .i64 t611, .slice none 0 0] (0, 0) _ rfl (by (with_reducible repeat (first | refine zM ?_ _ | refine zP ?_ | refine zQ ?_ _)); refine blk_put (cs := #[.int .i64 t611, .slice none 0 0]) ?_ 1 _ rfl; (with_reducible repeat (first | refine zM ?_ _ | refine zP ?_ | refine zQ ?_ _)); refine blk_put (cs := #[.int .i64 0, .slice none 0 0]) ?_ 0 _ rfl; (with_reducible repeat (first | refine zM ?_ _ | refine zP ?_ | refine zQ ?_ _)); exact BK610.out) Tryz.underlying31 rfl zq5) rfl ?_
 exact ⟨_, zq3, zq9, (by repeat (first | (with_reducible first | exact HB.out | apply zA | apply zN | apply zD | refine below_set ?_ GE610.out) | exact HB.out))⟩
def laws_FnExactBasesOf.j0 : Nat → List (S48) → ByteArray → ByteArray → Bool → Int → List ByteArray → Int → List ByteArray → Option (Bool)
 | 0, _, _, _, _, _, _, _, _ => none
 | k + 1, x0, x1, x2, x56, x625000, x625001, x633000, x633001 => if x56 = true then (some false) else ((laws_markLinesResult.f k x633000 x633001 1).bind fun bt641 => ((laws_heldLinesResult.f k x633000 bt641.2 1).bind fun t643 => (if t643 < 0 then (some false) else (if t643 = bt641.1 then ((laws_toObjectS.f k x0).bind fun t644 => ((impl_BasesOf.f k t644 x1 x2).bind fun bt647 => ((laws_eqLinesResult.f k bt647.1 bt647.2 x625000 x625001).bind fun t652 => (if t652 = true then ((laws_heldLinesResult.f k x633000 bt641.2 1).bind fun t653 => (if t653 < 0 then (some false) else (if t653 = bt641.1 then (some true) else (some false)))) else (some false))))) else (some false)))))
def laws_FnExactBasesOf.f (k : Nat) (l0 : List (S48)) (a1 : ByteArray) (a2 : ByteArray) : Option (Bool) := if (a1.size : Int) > 1048576 then (some true) else (if (a2.size : Int) > 1048576 then (some true) else ((laws_szObjectS.f k l0 1048576).bind fun t616 => (if t616 < 0 then (some true) else ((laws_toObjectS.f k l0).bind fun t617 => ((spec_BasesOf.f k t617 a1 a2).bind fun bt620 => ((laws_toObjectS.f k l0).bind fun t625 => ((impl_BasesOf.f k t625 a1 a2).bind fun bt628 => ((laws_eqLinesResult.f k bt628.1 bt628.2 bt620.1 bt620.2).bind fun t633 => (if t633 = true then ((laws_toObjectS.f k l0).bind fun t634 => ((laws_eqObjectS.f k t625 t634).bind fun t637 => (if t637 = true then ((laws_markObjectS.f k t625 1).bind fun bt638 => (if bt638.1 < 0 then (laws_FnExactBasesOf.j0 k l0 a1 a2 true bt620.1 bt620.2 bt628.1 bt628.2) else ((laws_eqLinesResult.f k bt628.1 bt628.2 bt620.1 bt620.2).bind fun t640 => (laws_FnExactBasesOf.j0 k l0 a1 a2 (!t640) bt620.1 bt620.2 bt628.1 bt628.2)))) else (some false)))) else (some false))))))))))
set_option maxHeartbeats 8000000 in
set_option maxRecDepth 100000 in
theorem laws_FnExactBasesOf.calls (k : Nat) (A0 : Option Addr) (c0 : Nat) (l0 : List (S48)) (a1 : ByteArray) (a2 : ByteArray) (r : Bool) (w : World) (hr0 : Kd.C k48 w A0 l0.length l0) (hc0 : l0.length ≤ c0) (hG : Gt w) (h : laws_FnExactBasesOf.f k l0 a1 a2 = some r) (hT_ : r = true := by rfl) :
  Calls Tryz.prog 6 #[.slice A0 l0.length c0, .string a1, .string a2] w fun e w' => e = .returned (.bool r) ∧ Below w.heap.size w w' := by
 have HG := zK hG
 clear hG
 have hu31 := Tryz.underlying31
 have HR0 := zK hr0
 have HC0 := zK hc0
 clear hr0 hc0
 have HB := zK (Below.refl w.heap.size w)
 have H : (if (a1.size : Int) > 1048576 then (some true) else (if (a2.size : Int) > 1048576 then (some true) else ((laws_szObjectS.f k l0 1048576).bind fun t616 => (if t616 < 0 then (some true) else ((laws_toObjectS.f k l0).bind fun t617 => ((spec_BasesOf.f k t617 a1 a2).bind fun bt620 => ((laws_toObjectS.f k l0).bind fun t625 => ((impl_BasesOf.f k t625 a1 a2).bind fun bt628 => ((laws_eqLinesResult.f k bt628.1 bt628.2 bt620.1 bt620.2).bind fun t633 => (if t633 = true then ((laws_toObjectS.f k l0).bind fun t634 => ((laws_eqObjectS.f k t625 t634).bind fun t637 => (if t637 = true then ((laws_markObjectS.f k t625 1).bind fun bt638 => (if bt638.1 < 0 then (laws_FnExactBasesOf.j0 k l0 a1 a2 true bt620.1 bt620.2 bt628.1 bt628.2) else ((laws_eqLinesResult.f k bt628.1 bt628.2 bt620.1 bt620.2).bind fun t640 => (laws_FnExactBasesOf.j0 k l0 a1 a2 (!t640) bt620.1 bt620.2 bt628.1 bt628.2)))) else (some false)))) else (some false))))))))))) = some r := h
 clear h
 by_cases c4 : (a1.size : Int) > 1048576
 ·
  rw [if_pos c4] at H
  have c4b0 : decide (1048576 < (a1.size : Int)) = true := decide_eq_true c4
  have c4b1 : decide (1048576 < a1.size) = true := decide_eq_true zq6
  clear c4
  obtain rfl := Option.some.inj H
  go_enter Tryz.func6, Tryz.ntmps6
  go_wp2
  go_ret
  exact ⟨zq3, zq0⟩
 rw [if_neg c4] at H
 have c4b0 : decide (1048576 < (a1.size : Int)) = false := decide_eq_false c4
 have c4b1 : decide (1048576 < a1.size) = false := decide_eq_false zq6
 clear c4
 by_cases c5 : (a2.size : Int) > 1048576
 ·
  rw [if_pos c5] at H
  have c5b0 : decide (1048576 < (a2.size : Int)) = true := decide_eq_true c5
  have c5b1 : decide (1048576 < a2.size) = true := decide_eq_true zq6
  clear c5
  obtain rfl := Option.some.inj H
  go_enter Tryz.func6, Tryz.ntmps6
  go_wp2
  go_ret
  exact ⟨zq3, zq0⟩
 rw [if_neg c5] at H
 have c5b0 : decide (1048576 < (a2.size : Int)) = false := decide_eq_false c5
 have c5b1 : decide (1048576 < a2.size) = false := decide_eq_false zq6
 clear c5
 replace H := Option.bind_eq_some_iff.mp H
 obtain ⟨t616, A60, H⟩ := H
 replace H : (if t616 < 0 then (some true) else ((laws_toObjectS.f k l0).bind fun t617 => ((spec_BasesOf.f k t617 a1 a2).bind fun bt620 => ((laws_toObjectS.f k l0).bind fun t625 => ((impl_BasesOf.f k t625 a1 a2).bind fun bt628 => ((laws_eqLinesResult.f k bt628.1 bt628.2 bt620.1 bt620.2).bind fun t633 => (if t633 = true then ((laws_toObjectS.f k l0).bind fun t634 => ((laws_eqObjectS.f k t625 t634).bind fun t637 => (if t637 = true then ((laws_markObjectS.f k t625 1).bind fun bt638 => (if bt638.1 < 0 then (laws_FnExactBasesOf.j0 k l0 a1 a2 true bt620.1 bt620.2 bt628.1 bt628.2) else ((laws_eqLinesResult.f k bt628.1 bt628.2 bt620.1 bt620.2).bind fun t640 => (laws_FnExactBasesOf.j0 k l0 a1 a2 (!t640) bt620.1 bt620.2 bt628.1 bt628.2)))) else (some false)))) else (some false)))))))) = some r := H
 have A6 := zK A60
 clear A60
 by_cases c7 : t616 < 0
 ·
  rw [if_pos c7] at H
  have c7b0 : decide (t616 < 0) = true := decide_eq_true c7
  clear c7
  obtain rfl := Option.some.inj H
  go_enter Tryz.func6, Tryz.ntmps6
  go_wp2_with (first | ((with_reducible refine gate_callee (f := 8) rfl ?_); refine goesL_ (some 23) rfl rfl Tryz.func8 zq5 rfl #[.slice A0 l0.length c0, .int .i64 1048576] rfl zq1 ?_; (with_reducible refine (laws_szObjectS.calls k _ _ l0 1048576 t616 _ ?side1 ?side2 A6.out).mono ?_); (case side1 => repeat (first | exact HR0.out | (with_reducible refine Kd.C_alloc ?_ _) | (with_reducible refine Kd.C_drewN ?_ _) | (with_reducible refine Kd.C_drew ?_))); (case side2 => exact HC0.out); rintro e w8 ⟨rfl, hb⟩; refine ⟨_, rfl, ?_⟩; have n0_ := zK (below_step zq0 hb); clear HB; have HB := n0_; clear n0_; (try clear hb); (try clear hb2); (try clear hk); (try clear hi)))
  go_ret
  exact ⟨zq3, zq0⟩
 rw [if_neg c7] at H
 have c7b0 : decide (t616 < 0) = false := decide_eq_false c7
 clear c7
 replace H := Option.bind_eq_some_iff.mp H
 obtain ⟨t617, A90, H⟩ := H
 replace H : ((spec_BasesOf.f k t617 a1 a2).bind fun bt620 => ((laws_toObjectS.f k l0).bind fun t625 => ((impl_BasesOf.f k t625 a1 a2).bind fun bt628 => ((laws_eqLinesResult.f k bt628.1 bt628.2 bt620.1 bt620.2).bind fun t633 => (if t633 = true then ((laws_toObjectS.f k l0).bind fun t634 => ((laws_eqObjectS.f k t625 t634).bind fun t637 => (if t637 = true then ((laws_markObjectS.f k t625 1).bind fun bt638 => (if bt638.1 < 0 then (laws_FnExactBasesOf.j0 k l0 a1 a2 true bt620.1 bt620.2 bt628.1 bt628.2) else ((laws_eqLinesResult.f k bt628.1 bt628.2 bt620.1 bt620.2).bind fun t640 => (laws_FnExactBasesOf.j0 k l0 a1 a2 (!t640) bt620.1 bt620.2 bt628.1 bt628.2)))) else (some false)))) else (some false)))))) = some r := H
 have A9 := zK A90
 clear A90
 replace H := Option.bind_eq_some_iff.mp H
 obtain ⟨⟨t620, t621⟩, A100, H⟩ := H
 replace H : ((laws_toObjectS.f k l0).bind fun t625 => ((impl_BasesOf.f k t625 a1 a2).bind fun bt628 => ((laws_eqLinesResult.f k bt628.1 bt628.2 t620 t621).bind fun t633 => (if t633 = true then ((laws_toObjectS.f k l0).bind fun t634 => ((laws_eqObjectS.f k t625 t634).bind fun t637 => (if t637 = true then ((laws_markObjectS.f k t625 1).bind fun bt638 => (if bt638.1 < 0 then (laws_FnExactBasesOf.j0 k l0 a1 a2 true t620 t621 bt628.1 bt628.2) else ((laws_eqLinesResult.f k bt628.1 bt628.2 t620 t621).bind fun t640 => (laws_FnExactBasesOf.j0 k l0 a1 a2 (!t640) t620 t621 bt628.1 bt628.2)))) else (some false)))) else (some false))))) = some r := H
 have A10 := zK A100
 clear A100
 replace H := Option.bind_eq_some_iff.mp H
 obtain ⟨t625, A110, H⟩ := H
 replace H : ((impl_BasesOf.f k t625 a1 a2).bind fun bt628 => ((laws_eqLinesResult.f k bt628.1 bt628.2 t620 t621).bind fun t633 => (if t633 = true then ((laws_toObjectS.f k l0).bind fun t634 => ((laws_eqObjectS.f k t625 t634).bind fun t637 => (if t637 = true then ((laws_markObjectS.f k t625 1).bind fun bt638 => (if bt638.1 < 0 then (laws_FnExactBasesOf.j0 k l0 a1 a2 true t620 t621 bt628.1 bt628.2) else ((laws_eqLinesResult.f k bt628.1 bt628.2 t620 t621).bind fun t640 => (laws_FnExactBasesOf.j0 k l0 a1 a2 (!t640) t620 t621 bt628.1 bt628.2)))) else (some false)))) else (some false)))) = some r := H
 have A11 := zK A110
 clear A110
 replace H := Option.bind_eq_some_iff.mp H
 obtain ⟨⟨t628, t629⟩, A120, H⟩ := H
 replace H : ((laws_eqLinesResult.f k t628 t629 t620 t621).bind fun t633 => (if t633 = true then ((laws_toObjectS.f k l0).bind fun t634 => ((laws_eqObjectS.f k t625 t634).bind fun t637 => (if t637 = true then ((laws_markObjectS.f k t625 1).bind fun bt638 => (if bt638.1 < 0 then (laws_FnExactBasesOf.j0 k l0 a1 a2 true t620 t621 t628 t629) else ((laws_eqLinesResult.f k t628 t629 t620 t621).bind fun t640 => (laws_FnExactBasesOf.j0 k l0 a1 a2 (!t640) t620 t621 t628 t629)))) else (some false)))) else (some false))) = some r := H
 have A12 := zK A120
 clear A120
 replace H := Option.bind_eq_some_iff.mp H
 obtain ⟨t633, A130, H⟩ := H
 replace H : (if t633 = true then ((laws_toObjectS.f k l0).bind fun t634 => ((laws_eqObjectS.f k t625 t634).bind fun t637 => (if t637 = true then ((laws_markObjectS.f k t625 1).bind fun bt638 => (if bt638.1 < 0 then (laws_FnExactBasesOf.j0 k l0 a1 a2 true t620 t621 t628 t629) else ((laws_eqLinesResult.f k t628 t629 t620 t621).bind fun t640 => (laws_FnExactBasesOf.j0 k l0 a1 a2 (!t640) t620 t621 t628 t629)))) else (some false)))) else (some false)) = some r := H
 have A13 := zK A130
 clear A130
 by_cases c14 : t633 = true
 ·
  subst c14
  have H1 : ((laws_toObjectS.f k l0).bind fun t634 => ((laws_eqObjectS.f k t625 t634).bind fun t637 => (if t637 = true then ((laws_markObjectS.f k t625 1).bind fun bt638 => (if bt638.1 < 0 then (laws_FnExactBasesOf.j0 k l0 a1 a2 true t620 t621 t628 t629) else ((laws_eqLinesResult.f k t628 t629 t620 t621).bind fun t640 => (laws_FnExactBasesOf.j0 k l0 a1 a2 (!t640) t620 t621 t628 t629)))) else (some false)))) = some r := by rw [if_pos rfl] at H; exact H
  clear H
  have H := H1
  clear H1
  replace H := Option.bind_eq_some_iff.mp H
  obtain ⟨t634, A150, H⟩ := H
  replace H : ((laws_eqObjectS.f k t625 t634).bind fun t637 => (if t637 = true then ((laws_markObjectS.f k t625 1).bind fun bt638 => (if bt638.1 < 0 then (laws_FnExactBasesOf.j0 k l0 a1 a2 true t620 t621 t628 t629) else ((laws_eqLinesResult.f k t628 t629 t620 t621).bind fun t640 => (laws_FnExactBasesOf.j0 k l0 a1 a2 (!t640) t620 t621 t628 t629)))) else (some false))) = some r := H
  have A15 := zK A150
  clear A150
  replace H := Option.bind_eq_some_iff.mp H
  obtain ⟨t637, A160, H⟩ := H
  replace H : (if t637 = true then ((laws_markObjectS.f k t625 1).bind fun bt638 => (if bt638.1 < 0 then (laws_FnExactBasesOf.j0 k l0 a1 a2 true t620 t621 t628 t629) else ((laws_eqLinesResult.f k t628 t629 t620 t621).bind fun t640 => (laws_FnExactBasesOf.j0 k l0 a1 a2 (!t640) t620 t621 t628 t629)))) else (some false)) = some r := H
  have A16 := zK A160
  clear A160
  by_cases c17 : t637 = true
  ·
   subst c17
   have H1 : ((laws_markObjectS.f k t625 1).bind fun bt638 => (if bt638.1 < 0 then (laws_FnExactBasesOf.j0 k l0 a1 a2 true t620 t621 t628 t629) else ((laws_eqLinesResult.f k t628 t629 t620 t621).bind fun t640 => (laws_FnExactBasesOf.j0 k l0 a1 a2 (!t640) t620 t621 t628 t629)))) = some r := by rw [if_pos rfl] at H; exact H
   clear H
   have H := H1
   clear H1
   replace H := Option.bind_eq_some_iff.mp H
   obtain ⟨⟨t638, t639⟩, A180, H⟩ := H
   replace H : (if t638 < 0 then (laws_FnExactBasesOf.j0 k l0 a1 a2 true t620 t621 t628 t629) else ((laws_eqLinesResult.f k t628 t629 t620 t621).bind fun t640 => (laws_FnExactBasesOf.j0 k l0 a1 a2 (!t640) t620 t621 t628 t629))) = some r := H
   have A18 := zK A180
   clear A180
   have HC19 := zK H
   clear H
   go_enter Tryz.func6, Tryz.ntmps6
   go_upto_region 18 with (first | ((with_reducible refine gate_callee (f := 8) rfl ?_); refine goesL_ (some 23) rfl rfl Tryz.func8 zq5 rfl #[.slice A0 l0.length c0, .int .i64 1048576] rfl zq1 ?_; (with_reducible refine (laws_szObjectS.calls k _ _ l0 1048576 t616 _ ?side1 ?side2 A6.out).mono ?_); (case side1 => repeat (first | exact HR0.out | (with_reducible refine Kd.C_alloc ?_ _) | (with_reducible refine Kd.C_drewN ?_ _) | (with_reducible refine Kd.C_drew ?_))); (case side2 => exact HC0.out); rintro e w20 ⟨rfl, hb⟩; refine ⟨_, rfl, ?_⟩; have n0_ := zK (below_step zq0 hb); clear HB; have HB := n0_; clear n0_; (try clear hb); (try clear hb2); (try clear hk); (try clear hi)) | ((with_reducible refine gate_callee (f := 10) rfl ?_); refine goesL_ (some 27) rfl rfl Tryz.func10 zq5 rfl #[.slice A0 l0.length c0] rfl zq1 ?_; (with_reducible refine (laws_toObjectS.calls k _ _ l0 t617 _ ?side1 ?side2 A9.out).mono ?_); (case side1 => repeat (first | exact (Kd.C_below HR0.out HB.out) | (with_reducible refine Kd.C_alloc ?_ _) | (with_reducible refine Kd.C_drewN ?_ _) | (with_reducible refine Kd.C_drew ?_))); (case side2 => exact HC0.out); rintro e w21 ⟨v618, rfl, ho0, hb⟩; refine ⟨_, rfl, ?_⟩; have n0_ := zK (Kd.R_lower ho0 (below_size zq0)); have n1_ := zK (below_step zq0 hb); clear HB; have HO619 := n0_; have HB := n1_; clear n0_ n1_; (try clear hb); (try clear hb2); (try clear hk); (try clear hi); (try clear ho0); obtain ⟨Ao22, co22, eo22⟩ := Kd.R_slice HO619.out; subst eo22) | ((with_reducible refine gate_callee (f := 22) rfl ?_); refine goesL_ (some 30) rfl rfl Tryz.func22 zq5 rfl #[.slice Ao22 t617.length co22, .string a1, .string a2] rfl zq1 ?_; (with_reducible refine (spec_BasesOf.calls k _ _ t617 a1 a2 t620 t621 _ ?side1 ?side2 A10.out).mono ?_); (case side1 => repeat (first | exact (Kd.R_reads' HO619.out).2.2 | (with_reducible refine Kd.C_alloc ?_ _) | (with_reducible refine Kd.C_drewN ?_ _) | (with_reducible refine Kd.C_drew ?_))); (case side2 => exact (Kd.R_reads' HO619.out).2.1); rintro e w23 ⟨v622, rfl, ho0, hb⟩; refine ⟨_, rfl, ?_⟩; have n0_ := zK (Kd.R_below zq14 hb); have n1_ := zK (Kd.R_lower ho0 (below_size zq0)); have n2_ := zK (below_step zq0 hb); clear HO619; clear HB; have HO619 := n0_; have HO623 := n1_; have HB := n2_; clear n0_ n1_ n2_; (try clear hb); (try clear hb2); (try clear hk); (try clear hi); (try clear ho0)) | ((with_reducible refine gate_dst (N := 8) rfl ?_); refine box_event ?hg (N := 8) ?hd (cs := #[.int .i64 0, .slice none 0 0]) (t := 31) ?hr ?_; (case hd => rfl); (case hg => rfl); (case hr => first | (go_simp; done) | (go_simp; rfl)); intro gb624 hg w24 hbox hb; have n0_ := zK (Kd.R_below zq14 hb); have n1_ := zK (Kd.R_below zq16 hb); have n2_ := zK (below_step zq0 hb); have n3_ := zK (hbox); have n4_ := zK ((by rw [hg]; exact (below_size zq0) : w.heap.size ≤ gb624)); have n5_ := zK ((by rw [hg]; exact (below_size zq0) : w.heap.size ≤ gb624)); clear HO619; clear HO623; clear HB; have HO619 := n0_; have HO623 := n1_; have HB := n2_; have BK624 := n3_; have GW624 := n4_; have GE624 := n5_; clear n0_ n1_ n2_ n3_ n4_ n5_; clear hb hbox hg; have hcz25_0 : w24.cell? ⟨gb624, 0, none⟩ = some (.int .i64 0) := (blk_cell BK624.out 0).trans rfl; have hcz25_1 : w24.cell? ⟨gb624, 1, none⟩ = some (.slice none 0 0) := (blk_cell BK624.out 1).trans rfl; have hfz25_0 := blk_frozen BK624.out 0; have hfz25_1 := blk_frozen BK624.out 1; obtain ⟨Ao26, co26, eo26⟩ := Kd.R_slice HO623.out; subst eo26) | ((with_reducible refine gate_callee (f := 10) rfl ?_); refine goesL_ (some 32) rfl rfl Tryz.func10 zq5 rfl #[.slice A0 l0.length c0] rfl zq1 ?_; (with_reducible refine (laws_toObjectS.calls k _ _ l0 t625 _ ?side1 ?side2 A11.out).mono ?_); (case side1 => exact Kd.C_below HR0.out (by repeat (first | (with_reducible first | exact HB.out | apply zA | apply zN | apply zD | refine below_set ?_ GE624.out) | exact HB.out))); (case side2 => exact HC0.out); rintro e w27 ⟨v626, rfl, ho0, hb⟩; refine ⟨_, rfl, ?_⟩; have n0_ := zK (Kd.R_elder' (by (with_reducible repeat (first | apply zR | apply zV | apply zW)); exact (Kd.R_mono (Kd.R_far (p := ⟨gb624, 1, none⟩) (Kd.R_far (p := ⟨gb624, 0, none⟩) (Kd.R_types HO619.out BK624.out zq10) (fun _ hk => hk.2) (.int .i64 t620)) (fun _ hk => hk.2) (.slice Ao26 t621.length co26)) (fun _ h_ => h_.1))) (Kd.R_base ho0) hb); have n1_ := zK (Kd.R_below (by (with_reducible repeat (first | apply zR | apply zV | apply zW)); exact (Kd.R_mono (Kd.R_far (p := ⟨gb624, 1, none⟩) (Kd.R_far (p := ⟨gb624, 0, none⟩) (Kd.R_types HO623.out BK624.out zq10) (fun _ hk => hk.2) (.int .i64 t620)) (fun _ hk => hk.2) (.slice Ao26 t621.length co26)) (fun _ h_ => h_.1))) hb); have n2_ := zK (Kd.R_lower (Kd.R_new' ho0 (Kd.R_lt (by (with_reducible repeat (first | apply zR | apply zV | apply zW)); exact (Kd.R_mono (Kd.R_far (p := ⟨gb624, 1, none⟩) (Kd.R_far (p := ⟨gb624, 0, none⟩) (Kd.R_types HO619.out BK624.out zq10) (fun _ hk => hk.2) (.int .i64 t620)) (fun _ hk => hk.2) (.slice Ao26 t621.length co26)) (fun _ h_ => h_.1))))) (below_size (by repeat (first | (with_reducible first | exact HB.out | apply zA | apply zN | apply zD | refine below_set ?_ GE624.out) | exact HB.out)))); have n3_ := zK (blk_below (g := gb624) (o := .cells #[.int .i64 t620, .slice Ao26 t621.length co26] 31 (0, 0)) (by (with_reducible repeat (first | refine zM ?_ _ | refine zP ?_ | refine zQ ?_ _)); refine blk_put (cs := #[.int .i64 t620, .slice none 0 0]) ?_ 1 _ rfl; (with_reducible repeat (first | refine zM ?_ _ | refine zP ?_ | refine zQ ?_ _)); refine blk_put (cs := #[.int .i64 0, .slice none 0 0]) ?_ 0 _ rfl; (with_reducible repeat (first | refine zM ?_ _ | refine zP ?_ | refine zQ ?_ _)); exact BK624.out) hb); have n4_ := zK (below_step (by repeat (first | (with_reducible first | exact HB.out | apply zA | apply zN | apply zD | refine below_set ?_ GE624.out) | exact HB.out)) hb); clear HO619; clear HO623; clear BK624; clear HB; have HO619 := n0_; have HO623 := n1_; have HO627 := n2_; have BK624 := n3_; have HB := n4_; clear n0_ n1_ n2_ n3_ n4_; (try clear hb); (try clear hb2); (try clear hk); (try clear hi); (try clear ho0); obtain ⟨Ao28, co28, eo28⟩ := Kd.R_slice HO627.out; subst eo28) | ((with_reducible refine gate_callee (f := 23) rfl ?_); refine goesL_ (some 36) rfl rfl Tryz.func23 zq5 rfl #[.slice Ao28 t625.length co28, .string a1, .string a2] rfl zq1 ?_; (with_reducible refine (impl_BasesOf.calls k _ _ t625 a1 a2 t628 t629 _ ?side1 ?side2 (Gt.below HG.out (by repeat (first | (with_reducible first | exact HB.out | apply zA | apply zN | apply zD | refine below_set ?_ GE624.out) | exact HB.out))) A12.out).mono ?_); (case side1 => repeat (first | exact (Kd.R_reads' HO627.out).2.2 | (with_reducible refine Kd.C_alloc ?_ _) | (with_reducible refine Kd.C_drewN ?_ _) | (with_reducible refine Kd.C_drew ?_))); (case side2 => exact (Kd.R_reads' HO627.out).2.1); rintro e w29 ⟨v630, rfl, ho0, hb⟩; refine ⟨_, rfl, ?_⟩; have n0_ := zK (Kd.R_below zq14 hb); have n1_ := zK (Kd.R_elder' zq16 (Kd.R_base ho0) hb); have n2_ := zK (Kd.R_below zq21 hb); have n3_ := zK (Kd.R_lower (Kd.R_new' ho0 (Kd.R_lt zq16)) (below_size (by repeat (first | (with_reducible first | exact HB.out | apply zA | apply zN | apply zD | refine below_set ?_ GE624.out) | exact HB.out)))); have n4_ := zK (blk_below (g := gb624) (o := .cells #[.int .i64 t620, .slice Ao26 t621.length co26] 31 (0, 0)) (by (with_reducible repeat (first | refine zM ?_ _ | refine zP ?_ | refine zQ ?_ _)); exact BK624.out) hb); have n5_ := zK (below_step (by repeat (first | (with_reducible first | exact HB.out | apply zA | apply zN | apply zD | refine below_set ?_ GE624.out) | exact HB.out)) hb); clear HO619; clear HO623; clear HO627; clear BK624; clear HB; have HO619 := n0_; have HO623 := n1_; have HO627 := n2_; have HO631 := n3_; have BK624 := n4_; have HB := n5_; clear n0_ n1_ n2_ n3_ n4_ n5_; (try clear hb); (try clear hb2); (try clear hk); (try clear hi); (try clear ho0)) | ((with_reducible refine gate_dst (N := 10) rfl ?_); refine box_event ?hg (N := 10) ?hd (cs := #[.int .i64 0, .slice none 0 0]) (t := 31) ?hr ?_; (case hd => rfl); (case hg => rfl); (case hr => first | (go_simp; done) | (go_simp; rfl)); intro gb632 hg w30 hbox hb; have n0_ := zK (Kd.R_below zq14 hb); have n1_ := zK (Kd.R_below zq16 hb); have n2_ := zK (Kd.R_below zq21 hb); have n3_ := zK (Kd.R_below zq28 hb); have n4_ := zK (blk_below (g := gb624) (o := .cells #[.int .i64 t620, .slice Ao26 t621.length co26] 31 (0, 0)) (by (with_reducible repeat (first | refine zM ?_ _ | refine zP ?_ | refine zQ ?_ _)); exact BK624.out) hb); have n5_ := zK (below_step (by repeat (first | (with_reducible first | exact HB.out | apply zA | apply zN | apply zD | refine below_set ?_ GE624.out) | exact HB.out)) hb); have n6_ := zK (hbox); have n7_ := zK ((by rw [hg]; exact (below_size (by repeat (first | (with_reducible first | exact HB.out | apply zA | apply zN | apply zD | refine below_set ?_ GE624.out) | exact HB.out))) : w.heap.size ≤ gb632)); have n8_ := zK ((by rw [hg]; exact (below_size (by repeat (first | (with_reducible first | exact HB.out | apply zA | apply zN | apply zD | refine below_set ?_ GE624.out) | exact HB.out))) : w.heap.size ≤ gb632)); have n9_ := zK ((by rw [hg]; exact Nat.ne_of_lt (blk_lt (g := gb624) (o := .cells #[.int .i64 t620, .slice Ao26 t621.length co26] 31 (0, 0)) (by (with_reducible repeat (first | refine zM ?_ _ | refine zP ?_ | refine zQ ?_ _)); exact BK624.out)) : gb624 ≠ gb632)); have n10_ := zK ((by rw [hg]; exact Nat.ne_of_gt (blk_lt (g := gb624) (o := .cells #[.int .i64 t620, .slice Ao26 t621.length co26] 31 (0, 0)) (by (with_reducible repeat (first | refine zM ?_ _ | refine zP ?_ | refine zQ ?_ _)); exact BK624.out)) : gb632 ≠ gb624)); clear HO619; clear HO623; clear HO627; clear HO631; clear BK624; clear HB; have HO619 := n0_; have HO623 := n1_; have HO627 := n2_; have HO631 := n3_; have BK624 := n4_; have HB := n5_; have BK632 := n6_; have GW632 := n7_; have GE632 := n8_; have NB624_632 := n9_; have NB632_624 := n10_; clear n0_ n1_ n2_ n3_ n4_ n5_ n6_ n7_ n8_ n9_ n10_; clear hb hbox hg; have hnb31 := NB632_624.out; have hnc31 := NB624_632.out; have hcz32_0 : w30.cell? ⟨gb632, 0, none⟩ = some (.int .i64 0) := (blk_cell BK632.out 0).trans rfl; have hcz32_1 : w30.cell? ⟨gb632, 1, none⟩ = some (.slice none 0 0) := (blk_cell BK632.out 1).trans rfl; have hfz32_0 := blk_frozen BK632.out 0; have hfz32_1 := blk_frozen BK632.out 1; obtain ⟨Ao33, co33, eo33⟩ := Kd.R_slice HO631.out; subst eo33; have hcz34_0 : w30.cell? ⟨gb624, 0, none⟩ = some (.int .i64 t620) := (blk_cell BK624.out 0).trans rfl; have hcz34_1 : w30.cell? ⟨gb624, 1, none⟩ = some (.slice Ao26 t621.length co26) := (blk_cell BK624.out 1).trans rfl; have hfz34_0 := blk_frozen BK624.out 0; have hfz34_1 := blk_frozen BK624.out 1) | ((with_reducible refine gate_callee (f := 15) rfl ?_); refine goesL_ (some 39) rfl rfl Tryz.func15 zq5 rfl #[.agg #[.int .i64 t628, .slice Ao33 t629.length co33], .agg #[.int .i64 t620, .slice Ao26 t621.length co26]] rfl zq1 ?_; (with_reducible refine (laws_eqLinesResult.calls k t628 _ _ t629 t620 _ _ t621 true _ ?side1 ?side2 ?side3 ?side4 A13.out).mono ?_); (case side1 => refine (Kd.R_reads' (e := 9) (base := w.heap.size) (ok := fun k_ => (True ∧ some k_ ≠ (.slice Ao26 t621.length co26 : Value).ownBlock)) (n := t629.length) (c := co33) ?_).2.2; exact (by (with_reducible repeat (first | apply zR | apply zV | apply zW)); exact (Kd.R_mono (Kd.R_far (p := ⟨gb632, 1, none⟩) (Kd.R_far (p := ⟨gb632, 0, none⟩) (Kd.R_types HO631.out BK632.out zq10) (fun _ hk => hk.2) (.int .i64 t628)) (fun _ hk => hk.2) (.slice Ao33 t629.length co33)) (fun _ h_ => h_.1)))); (case side2 => exact (Kd.R_reads' HO631.out).2.1); (case side3 => refine (Kd.R_reads' (e := 9) (base := w.heap.size) (ok := fun k_ => (True ∧ some k_ ≠ (.slice Ao33 t629.length co33 : Value).ownBlock)) (n := t621.length) (c := co26) ?_).2.2; exact (by (with_reducible repeat (first | apply zR | apply zV | apply zW)); exact (Kd.R_mono (Kd.R_far (p := ⟨gb632, 1, none⟩) (Kd.R_far (p := ⟨gb632, 0, none⟩) (Kd.R_types HO623.out BK632.out zq10) (fun _ hk => hk.2) (.int .i64 t628)) (fun _ hk => hk.2) (.slice Ao33 t629.length co33)) (fun _ h_ => h_.1)))); (case side4 => exact (Kd.R_reads' HO623.out).2.1); rintro e w35 ⟨rfl, hb⟩; refine ⟨_, rfl, ?_⟩; have n0_ := zK (Kd.R_below (by (with_reducible repeat (first | apply zR | apply zV | apply zW)); exact (Kd.R_mono (Kd.R_far (p := ⟨gb632, 1, none⟩) (Kd.R_far (p := ⟨gb632, 0, none⟩) (Kd.R_types HO619.out BK632.out zq10) (fun _ hk => hk.2) (.int .i64 t628)) (fun _ hk => hk.2) (.slice Ao33 t629.length co33)) (fun _ h_ => h_.1))) hb); have n1_ := zK (Kd.R_below (by (with_reducible repeat (first | apply zR | apply zV | apply zW)); exact (Kd.R_mono (Kd.R_far (p := ⟨gb632, 1, none⟩) (Kd.R_far (p := ⟨gb632, 0, none⟩) (Kd.R_types HO623.out BK632.out zq10) (fun _ hk => hk.2) (.int .i64 t628)) (fun _ hk => hk.2) (.slice Ao33 t629.length co33)) (fun _ h_ => h_.1))) hb); have n2_ := zK (Kd.R_below (by (with_reducible repeat (first | apply zR | apply zV | apply zW)); exact (Kd.R_mono (Kd.R_far (p := ⟨gb632, 1, none⟩) (Kd.R_far (p := ⟨gb632, 0, none⟩) (Kd.R_types HO627.out BK632.out zq10) (fun _ hk => hk.2) (.int .i64 t628)) (fun _ hk => hk.2) (.slice Ao33 t629.length co33)) (fun _ h_ => h_.1))) hb); have n3_ := zK (Kd.R_below (by (with_reducible repeat (first | apply zR | apply zV | apply zW)); exact (Kd.R_mono (Kd.R_far (p := ⟨gb632, 1, none⟩) (Kd.R_far (p := ⟨gb632, 0, none⟩) (Kd.R_types HO631.out BK632.out zq10) (fun _ hk => hk.2) (.int .i64 t628)) (fun _ hk => hk.2) (.slice Ao33 t629.length co33)) (fun _ h_ => h_.1))) hb); have n4_ := zK (blk_below (g := gb624) (o := .cells #[.int .i64 t620, .slice Ao26 t621.length co26] 31 (0, 0)) (by (with_reducible repeat (first | refine zM ?_ _ | refine zP ?_ | refine zQ ?_ _)); refine blk_far ?_ NB624_632.out _; (with_reducible repeat (first | refine zM ?_ _ | refine zP ?_ | refine zQ ?_ _)); refine blk_far ?_ NB624_632.out _; (with_reducible repeat (first | refine zM ?_ _ | refine zP ?_ | refine zQ ?_ _)); exact BK624.out) hb); have n5_ := zK (blk_below (g := gb632) (o := .cells #[.int .i64 t628, .slice Ao33 t629.length co33] 31 (0, 0)) (by (with_reducible repeat (first | refine zM ?_ _ | refine zP ?_ | refine zQ ?_ _)); refine blk_put (cs := #[.int .i64 t628, .slice none 0 0]) ?_ 1 _ rfl; (with_reducible repeat (first | refine zM ?_ _ | refine zP ?_ | refine zQ ?_ _)); refine blk_put (cs := #[.int .i64 0, .slice none 0 0]) ?_ 0 _ rfl; (with_reducible repeat (first | refine zM ?_ _ | refine zP ?_ | refine zQ ?_ _)); exact BK632.out) hb); have n6_ := zK (below_step (by repeat (first | (with_reducible first | exact HB.out | apply zA | apply zN | apply zD | refine below_set ?_ GE624.out | refine below_set ?_ GE632.out) | exact HB.out)) hb); clear HO619; clear HO623; clear HO627; clear HO631; clear BK624; clear BK632; clear HB; have HO619 := n0_; have HO623 := n1_; have HO627 := n2_; have HO631 := n3_; have BK624 := n4_; have BK632 := n5_; have HB := n6_; clear n0_ n1_ n2_ n3_ n4_ n5_ n6_; (try clear hb); (try clear hb2); (try clear hk); (try clear hi)) | ((with_reducible refine gate_callee (f := 10) rfl ?_); refine goesL_ (some 43) rfl rfl Tryz.func10 zq5 rfl #[.slice A0 l0.length c0] rfl zq1 ?_; (with_reducible refine (laws_toObjectS.calls k _ _ l0 t634 _ ?side1 ?side2 A15.out).mono ?_); (case side1 => repeat (first | exact (Kd.C_below HR0.out HB.out) | (with_reducible refine Kd.C_alloc ?_ _) | (with_reducible refine Kd.C_drewN ?_ _) | (with_reducible refine Kd.C_drew ?_))); (case side2 => exact HC0.out); rintro e w36 ⟨v635, rfl, ho0, hb⟩; refine ⟨_, rfl, ?_⟩; have n0_ := zK (Kd.R_elder' zq14 (Kd.R_base ho0) hb); have n1_ := zK (Kd.R_below zq16 hb); have n2_ := zK (Kd.R_elder' zq21 (Kd.R_base ho0) hb); have n3_ := zK (Kd.R_below zq28 hb); have n4_ := zK (Kd.R_lower (Kd.R_new' (Kd.R_new' ho0 (Kd.R_lt zq14)) (Kd.R_lt zq21)) (below_size (by repeat (first | (with_reducible first | exact HB.out | apply zA | apply zN | apply zD | refine below_set ?_ GE624.out | refine below_set ?_ GE632.out) | exact HB.out)))); have n5_ := zK (blk_below (g := gb624) (o := .cells #[.int .i64 t620, .slice Ao26 t621.length co26] 31 (0, 0)) (by (with_reducible repeat (first | refine zM ?_ _ | refine zP ?_ | refine zQ ?_ _)); exact BK624.out) hb); have n6_ := zK (blk_below (g := gb632) (o := .cells #[.int .i64 t628, .slice Ao33 t629.length co33] 31 (0, 0)) (by (with_reducible repeat (first | refine zM ?_ _ | refine zP ?_ | refine zQ ?_ _)); exact BK632.out) hb); have n7_ := zK (below_step (by repeat (first | (with_reducible first | exact HB.out | apply zA | apply zN | apply zD | refine below_set ?_ GE624.out | refine below_set ?_ GE632.out) | exact HB.out)) hb); clear HO619; clear HO623; clear HO627; clear HO631; clear BK624; clear BK632; clear HB; have HO619 := n0_; have HO623 := n1_; have HO627 := n2_; have HO631 := n3_; have HO636 := n4_; have BK624 := n5_; have BK632 := n6_; have HB := n7_; clear n0_ n1_ n2_ n3_ n4_ n5_ n6_ n7_; (try clear hb); (try clear hb2); (try clear hk); (try clear hi); (try clear ho0); obtain ⟨Ao37, co37, eo37⟩ := Kd.R_slice HO636.out; subst eo37) | ((with_reducible refine gate_callee (f := 12) rfl ?_); refine goesL_ (some 44) rfl rfl Tryz.func12 zq5 rfl #[.slice Ao28 t625.length co28, .slice Ao37 t634.length co37] rfl zq1 ?_; (with_reducible refine (laws_eqObjectS.calls k _ _ t625 _ _ t634 true _ ?side1 ?side2 ?side3 ?side4 A16.out).mono ?_); (case side1 => repeat (first | exact (Kd.R_reads' HO627.out).2.2 | (with_reducible refine Kd.C_alloc ?_ _) | (with_reducible refine Kd.C_drewN ?_ _) | (with_reducible refine Kd.C_drew ?_))); (case side2 => exact (Kd.R_reads' HO627.out).2.1); (case side3 => repeat (first | exact (Kd.R_reads' HO636.out).2.2 | (with_reducible refine Kd.C_alloc ?_ _) | (with_reducible refine Kd.C_drewN ?_ _) | (with_reducible refine Kd.C_drew ?_))); (case side4 => exact (Kd.R_reads' HO636.out).2.1); rintro e w38 ⟨rfl, hb⟩; refine ⟨_, rfl, ?_⟩; have n0_ := zK (Kd.R_below zq14 hb); have n1_ := zK (Kd.R_below zq16 hb); have n2_ := zK (Kd.R_below zq21 hb); have n3_ := zK (Kd.R_below zq28 hb); have n4_ := zK (Kd.R_below (by (with_reducible repeat (first | apply zR | apply zV | apply zW)); exact HO636.out) hb); have n5_ := zK (blk_below (g := gb624) (o := .cells #[.int .i64 t620, .slice Ao26 t621.length co26] 31 (0, 0)) (by (with_reducible repeat (first | refine zM ?_ _ | refine zP ?_ | refine zQ ?_ _)); exact BK624.out) hb); have n6_ := zK (blk_below (g := gb632) (o := .cells #[.int .i64 t628, .slice Ao33 t629.length co33] 31 (0, 0)) (by (with_reducible repeat (first | refine zM ?_ _ | refine zP ?_ | refine zQ ?_ _)); exact BK632.out) hb); have n7_ := zK (below_step (by repeat (first | (with_reducible first | exact HB.out | apply zA | apply zN | apply zD | refine below_set ?_ GE624.out | refine below_set ?_ GE632.out) | exact HB.out)) hb); clear HO619; clear HO623; clear HO627; clear HO631; clear HO636; clear BK624; clear BK632; clear HB; have HO619 := n0_; have HO623 := n1_; have HO627 := n2_; have HO631 := n3_; have HO636 := n4_; have BK624 := n5_; have BK632 := n6_; have HB := n7_; clear n0_ n1_ n2_ n3_ n4_ n5_ n6_ n7_; (try clear hb); (try clear hb2); (try clear hk); (try clear hi)) | ((with_reducible refine gate_callee (f := 16) rfl ?_); refine goesL_ (some 48) rfl rfl Tryz.func16 zq5 rfl #[.slice Ao28 t625.length co28, .int .i64 1] rfl zq1 ?_; (with_reducible refine (laws_markObjectS.calls k (fun k_ => some k_ = (.slice Ao28 t625.length co28 : Value).ownBlock) (.slice Ao28 t625.length co28) t625 1 t638 t639 w _ ?side1 ?side2 A18.out).mono ?_); (case side1 => repeat (first | (with_reducible first | exact HB.out | apply zA | apply zN | apply zD | refine below_set ?_ GE624.out | refine below_set ?_ GE632.out) | exact HB.out)); (case side2 => exact Kd.R_tight rfl HO627.out); rintro e w39 ⟨rfl, hy0, hb, hkp⟩; refine ⟨_, rfl, ?_⟩; have n0_ := zK (Kd.R_mono (ok' := fun k_ => some k_ ≠ (.slice Ao28 t625.length co28 : Value).ownBlock ∧ some k_ ≠ (.slice Ao37 t634.length co37 : Value).ownBlock) (Kd.R_keptB (HO619.out) hkp (fun k_ hk_ hs_ => (hk_.1.2) hs_)) (fun k_ hk_ => ⟨hk_.1.1.2, hk_.1.2⟩)); have n1_ := zK (Kd.R_mono (ok' := fun k_ => some k_ ≠ (.slice Ao33 t629.length co33 : Value).ownBlock) (Kd.R_keptB ((Kd.R_apart' HO623.out (Kd.R_typed HO627.out) zq10)) hkp (fun k_ hk_ hs_ => (hk_.2) hs_)) (fun k_ hk_ => hk_.1.1.2)); have n2_ := zK (blk_kept (by (with_reducible repeat (first | refine zM ?_ _ | refine zP ?_ | refine zQ ?_ _)); exact BK624.out) hkp (fun hs_ => (fun e_ => (Kd.R_ne HO627.out BK624.out zq10) e_) hs_)); have n3_ := zK (Kd.R_reok rfl hy0 (fun k_ e_ => HO627.out.1 k_ e_)); have n4_ := zK (Kd.R_mono (ok' := fun k_ => some k_ ≠ (.slice Ao26 t621.length co26 : Value).ownBlock) (Kd.R_keptB ((Kd.R_apart' HO631.out (Kd.R_typed HO627.out) zq10)) hkp (fun k_ hk_ hs_ => (hk_.2) hs_)) (fun k_ hk_ => hk_.1.1.2)); have n5_ := zK (blk_kept (by (with_reducible repeat (first | refine zM ?_ _ | refine zP ?_ | refine zQ ?_ _)); exact BK632.out) hkp (fun hs_ => (fun e_ => (Kd.R_ne HO627.out BK632.out zq10) e_) hs_)); have n6_ := zK (Kd.R_mono (ok' := fun k_ => some k_ ≠ (.slice Ao22 t617.length co22 : Value).ownBlock ∧ some k_ ≠ (.slice Ao28 t625.length co28 : Value).ownBlock) (Kd.R_keptB (HO636.out) hkp (fun k_ hk_ hs_ => (hk_.2) hs_)) (fun k_ hk_ => ⟨hk_.1.1.2, hk_.1.2⟩)); have n7_ := zK (hb); clear HO619; clear HO623; clear BK624; clear HO627; clear HO631; clear BK632; clear HO636; clear HB; have HO619 := n0_; have HO623 := n1_; have BK624 := n2_; have HO627 := n3_; have HO631 := n4_; have BK632 := n5_; have HO636 := n6_; have HB := n7_; clear n0_ n1_ n2_ n3_ n4_ n5_ n6_ n7_; (try clear hb); (try clear hkp); (try clear hy0)))
   (try simp only [Act.put, zS, zT, zU])
   go_cut [56] (fun v56 wc => ∃ (kq : Nat) (x56_18 : Bool), v56 = .bool x56_18 ∧ Aside0 (laws_FnExactBasesOf.j0 kq l0 a1 a2 x56_18 t620 t621 t628 t629 = some r) ∧ Aside0 (kq ≤ k) ∧ Aside0 (Kd.R Kd.string 9 wc w.heap.size (fun k_ => some k_ ≠ ((.slice Ao33 t629.length co33) : Value).ownBlock) (.slice Ao26 t621.length co26) t621) ∧ Aside0 (Kd.R Kd.string 9 wc w.heap.size (fun k_ => some k_ ≠ ((.slice Ao26 t621.length co26) : Value).ownBlock) (.slice Ao33 t629.length co33) t629) ∧ Aside0 (wc.heap[gb624]? = some (.cells #[.int .i64 t620, (.slice Ao26 t621.length co26)] 31 (0, 0))) ∧ Aside0 (wc.heap[gb632]? = some (.cells #[.int .i64 t628, (.slice Ao33 t629.length co33)] 31 (0, 0))) ∧ Aside0 (Below w.heap.size w wc))
   case first =>
    have H := HC19.out
    clear HC19
    by_cases c40 : t638 < 0
    ·
     rw [if_pos c40] at H
     have c40b0 : decide (t638 < 0) = true := decide_eq_true c40
     clear c40
     (first | rw [c40b0] | (simp only [i64_w, i32_w]; rw [c40b0]) | skip)
     have H' := zK H
     clear H
     go_wp2
     go_meet
     case rel => exact ⟨_, (true), zq4, H', ⟨by first | omega | exact Nat.le_refl _⟩, ⟨by (with_reducible repeat (first | apply zR | apply zV | apply zW)); exact HO623.out⟩, ⟨by (with_reducible repeat (first | apply zR | apply zV | apply zW)); exact HO631.out⟩, ⟨by (with_reducible repeat (first | refine zM ?_ _ | refine zP ?_ | refine zQ ?_ _)); exact BK624.out⟩, ⟨by (with_reducible repeat (first | refine zM ?_ _ | refine zP ?_ | refine zQ ?_ _)); exact BK632.out⟩, ⟨by repeat (first | (with_reducible first | exact HB.out | apply zA | apply zN | apply zD | refine below_set ?_ GE624.out | refine below_set ?_ GE632.out) | exact HB.out)⟩⟩
    rw [if_neg c40] at H
    have c40b0 : decide (t638 < 0) = false := decide_eq_false c40
    clear c40
    (first | rw [c40b0] | (simp only [i64_w, i32_w]; rw [c40b0]) | skip)
    replace H := Option.bind_eq_some_iff.mp H
    obtain ⟨t640, A410, H⟩ := H
    replace H : (laws_FnExactBasesOf.j0 k l0 a1 a2 (!t640) t620 t621 t628 t629) = some r := H
    have A41 := zK A410
    clear A410
    have H' := zK H
    clear H
    have hnb42 := NB632_624.out
    have hnc42 := NB624_632.out
    have hcz43_0 : w39.cell? ⟨gb632, 0, none⟩ = some (.int .i64 t628) := (blk_cell BK632.out 0).trans rfl
    have hcz43_1 : w39.cell? ⟨gb632, 1, none⟩ = some (.slice Ao33 t629.length co33) := (blk_cell BK632.out 1).trans rfl
    have hfz43_0 := blk_frozen BK632.out 0
    have hfz43_1 := blk_frozen BK632.out 1
    have hcz44_0 : w39.cell? ⟨gb624, 0, none⟩ = some (.int .i64 t620) := (blk_cell BK624.out 0).trans rfl
    have hcz44_1 : w39.cell? ⟨gb624, 1, none⟩ = some (.slice Ao26 t621.length co26) := (blk_cell BK624.out 1).trans rfl
    have hfz44_0 := blk_frozen BK624.out 0
    have hfz44_1 := blk_frozen BK624.out 1
    go_wp2_with (first | (go_at_call 15; (with_reducible refine (laws_eqLinesResult.calls k t628 _ _ t629 t620 _ _ t621 t640 _ ?side1 ?side2 ?side3 ?side4 A41.out).mono ?_); (case side1 => repeat (first | exact (Kd.R_reads' HO631.out).2.2 | (with_reducible refine Kd.C_alloc ?_ _) | (with_reducible refine Kd.C_drewN ?_ _) | (with_reducible refine Kd.C_drew ?_))); (case side2 => exact (Kd.R_reads' HO631.out).2.1); (case side3 => repeat (first | exact (Kd.R_reads' HO623.out).2.2 | (with_reducible refine Kd.C_alloc ?_ _) | (with_reducible refine Kd.C_drewN ?_ _) | (with_reducible refine Kd.C_drew ?_))); (case side4 => exact (Kd.R_reads' HO623.out).2.1); rintro e w45 ⟨rfl, hb⟩; have n0_ := zK (Kd.R_below zq14 hb); have n1_ := zK (Kd.R_below zq16 hb); have n2_ := zK (Kd.R_below zq21 hb); have n3_ := zK (Kd.R_below zq28 hb); have n4_ := zK (Kd.R_below (by (with_reducible repeat (first | apply zR | apply zV | apply zW)); exact HO636.out) hb); have n5_ := zK (blk_below (g := gb624) (o := .cells #[.int .i64 t620, .slice Ao26 t621.length co26] 31 (0, 0)) (by (with_reducible repeat (first | refine zM ?_ _ | refine zP ?_ | refine zQ ?_ _)); exact BK624.out) hb); have n6_ := zK (blk_below (g := gb632) (o := .cells #[.int .i64 t628, .slice Ao33 t629.length co33] 31 (0, 0)) (by (with_reducible repeat (first | refine zM ?_ _ | refine zP ?_ | refine zQ ?_ _)); exact BK632.out) hb); have n7_ := zK (below_step (by repeat (first | (with_reducible first | exact HB.out | apply zA | apply zN | apply zD | refine below_set ?_ GE624.out | refine below_set ?_ GE632.out) | exact HB.out)) hb); clear HO619; clear HO623; clear HO627; clear HO631; clear HO636; clear BK624; clear BK632; clear HB; have HO619 := n0_; have HO623 := n1_; have HO627 := n2_; have HO631 := n3_; have HO636 := n4_; have BK624 := n5_; have BK632 := n6_; have HB := n7_; clear n0_ n1_ n2_ n3_ n4_ n5_ n6_ n7_; (try clear hb); (try clear hb2); (try clear hk); (try clear hi)))
    go_meet
    case rel => exact ⟨_, (!t640), zq4, H', ⟨by first | omega | exact Nat.le_refl _⟩, ⟨by (with_reducible repeat (first | apply zR | apply zV | apply zW)); exact HO623.out⟩, ⟨by (with_reducible repeat (first | apply zR | apply zV | apply zW)); exact HO631.out⟩, ⟨by (with_reducible repeat (first | refine zM ?_ _ | refine zP ?_ | refine zQ ?_ _)); exact BK624.out⟩, ⟨by (with_reducible repeat (first | refine zM ?_ _ | refine zP ?_ | refine zQ ?_ _)); exact BK632.out⟩, ⟨by repeat (first | (with_reducible first | exact HB.out | apply zA | apply zN | apply zD | refine below_set ?_ GE624.out | refine below_set ?_ GE632.out) | exact HB.out)⟩⟩
   case rest =>
    clear HC19
    try clear c1
    try clear c2
    try clear p2
    try clear c3
    try clear c4
    try clear c4b0
    try clear c4b1
    try clear c5
    try clear c5b0
    try clear c5b1
    try clear c6
    try clear c7
    try clear c7b0
    try clear c8
    try clear c10
    try clear c12
    try clear c14
    try clear c15
    try clear c16
    try clear c17
    try clear c22
    try clear c23
    try clear c31
    try clear c40
    try clear c40b0
    try clear c42
    try clear hcz25_0
    try clear hcz25_1
    try clear hcz32_0
    try clear hcz32_1
    try clear hcz34_0
    try clear hcz34_1
    try clear hcz43_0
    try clear hcz43_1
    try clear hcz44_0
    try clear hcz44_1
    try clear hfz25_0
    try clear hfz25_1
    try clear hfz32_0
    try clear hfz32_1
    try clear hfz34_0
    try clear hfz34_1
    try clear hfz43_0
    try clear hfz43_1
    try clear hfz44_0
    try clear hfz44_1
    obtain ⟨kq, x56_18, rfl, HA, HJ18, HO_625001, HO_633001, BK624, BK632, HB⟩ := hcut
    cases kq with
    | zero => exact absurd HA.out (by simp [laws_FnExactBasesOf.j0])
    | succ kj18 =>
     have H := HA.out
     clear HA
     simp only [laws_FnExactBasesOf.j0] at H
     by_cases c46 : x56_18 = true
     ·
      subst c46
      have H1 : (some false) = some r := by rw [if_pos rfl] at H; exact H
      clear H
      have H := H1
      clear H1
      exact absurd ((Option.some.inj H).trans hT_) zq10
     replace c46 := Bool.eq_false_iff.mpr c46
     subst c46
     have H1 : ((laws_markLinesResult.f kj18 t628 t629 1).bind fun bt641 => ((laws_heldLinesResult.f kj18 t628 bt641.2 1).bind fun t643 => (if t643 < 0 then (some false) else (if t643 = bt641.1 then ((laws_toObjectS.f kj18 l0).bind fun t644 => ((impl_BasesOf.f kj18 t644 a1 a2).bind fun bt647 => ((laws_eqLinesResult.f kj18 bt647.1 bt647.2 t620 t621).bind fun t652 => (if t652 = true then ((laws_heldLinesResult.f kj18 t628 bt641.2 1).bind fun t653 => (if t653 < 0 then (some false) else (if t653 = bt641.1 then (some true) else (some false)))) else (some false))))) else (some false))))) = some r := by rw [if_neg (show ¬ (false = true) by decide)] at H; exact H
     clear H
     have H := H1
     clear H1
     replace H := Option.bind_eq_some_iff.mp H
     obtain ⟨⟨t641, t642⟩, A470, H⟩ := H
     replace H : ((laws_heldLinesResult.f kj18 t628 t642 1).bind fun t643 => (if t643 < 0 then (some false) else (if t643 = t641 then ((laws_toObjectS.f kj18 l0).bind fun t644 => ((impl_BasesOf.f kj18 t644 a1 a2).bind fun bt647 => ((laws_eqLinesResult.f kj18 bt647.1 bt647.2 t620 t621).bind fun t652 => (if t652 = true then ((laws_heldLinesResult.f kj18 t628 t642 1).bind fun t653 => (if t653 < 0 then (some false) else (if t653 = t641 then (some true) else (some false)))) else (some false))))) else (some false)))) = some r := H
     have A47 := zK A470
     clear A470
     replace H := Option.bind_eq_some_iff.mp H
     obtain ⟨t643, A480, H⟩ := H
     replace H : (if t643 < 0 then (some false) else (if t643 = t641 then ((laws_toObjectS.f kj18 l0).bind fun t644 => ((impl_BasesOf.f kj18 t644 a1 a2).bind fun bt647 => ((laws_eqLinesResult.f kj18 bt647.1 bt647.2 t620 t621).bind fun t652 => (if t652 = true then ((laws_heldLinesResult.f kj18 t628 t642 1).bind fun t653 => (if t653 < 0 then (some false) else (if t653 = t641 then (some true) else (some false)))) else (some false))))) else (some false))) = some r := H
     have A48 := zK A480
     clear A480
     by_cases c49 : t643 < 0
     ·
      rw [if_pos c49] at H
      have c49b0 : decide (t643 < 0) = true := decide_eq_true c49
      clear c49
      exact absurd ((Option.some.inj H).trans hT_) zq10
     rw [if_neg c49] at H
     have c49b0 : decide (t643 < 0) = false := decide_eq_false c49
     clear c49
     by_cases c55 : t643 = t641
     ·
      rw [if_pos c55] at H
      have c55b0 : (t643 == t641) = true := beq_iff_eq.mpr c55
      have c55b1 : (t643 != t641) = false := bne_eq_false_iff_eq.mpr c55
      clear c55
      replace H := Option.bind_eq_some_iff.mp H
      obtain ⟨t644, A560, H⟩ := H
      replace H : ((impl_BasesOf.f kj18 t644 a1 a2).bind fun bt647 => ((laws_eqLinesResult.f kj18 bt647.1 bt647.2 t620 t621).bind fun t652 => (if t652 = true then ((laws_heldLinesResult.f kj18 t628 t642 1).bind fun t653 => (if t653 < 0 then (some false) else (if t653 = t641 then (some true) else (some false)))) else (some false)))) = some r := H
      have A56 := zK A560
      clear A560
      replace H := Option.bind_eq_some_iff.mp H
      obtain ⟨⟨t647, t648⟩, A570, H⟩ := H
      replace H : ((laws_eqLinesResult.f kj18 t647 t648 t620 t621).bind fun t652 => (if t652 = true then ((laws_heldLinesResult.f kj18 t628 t642 1).bind fun t653 => (if t653 < 0 then (some false) else (if t653 = t641 then (some true) else (some false)))) else (some false))) = some r := H
      have A57 := zK A570
      clear A570
      replace H := Option.bind_eq_some_iff.mp H
      obtain ⟨t652, A580, H⟩ := H
      replace H : (if t652 = true then ((laws_heldLinesResult.f kj18 t628 t642 1).bind fun t653 => (if t653 < 0 then (some false) else (if t653 = t641 then (some true) else (some false)))) else (some false)) = some r := H
      have A58 := zK A580
      clear A580
      by_cases c59 : t652 = true
      ·
       subst c59
       have H1 : ((laws_heldLinesResult.f kj18 t628 t642 1).bind fun t653 => (if t653 < 0 then (some false) else (if t653 = t641 then (some true) else (some false)))) = some r := by rw [if_pos rfl] at H; exact H
       clear H
       have H := H1
       clear H1
       replace H := Option.bind_eq_some_iff.mp H
       obtain ⟨t653, A600, H⟩ := H
       replace H : (if t653 < 0 then (some false) else (if t653 = t641 then (some true) else (some false))) = some r := H
       have A60 := zK A600
       clear A600
       by_cases c61 : t653 < 0
       ·
        rw [if_pos c61] at H
        have c61b0 : decide (t653 < 0) = true := decide_eq_true c61
        clear c61
        exact absurd ((Option.some.inj H).trans hT_) zq10
       rw [if_neg c61] at H
       have c61b0 : decide (t653 < 0) = false := decide_eq_false c61
       clear c61
       by_cases c79 : t653 = t641
       ·
        rw [if_pos c79] at H
        have c79b0 : (t653 == t641) = true := beq_iff_eq.mpr c79
        have c79b1 : (t653 != t641) = false := bne_eq_false_iff_eq.mpr c79
        clear c79
        obtain rfl := Option.some.inj H
        have hnb80 := NB632_624.out
        have hnc80 := NB624_632.out
        have hcz81_0 : wc.cell? ⟨gb632, 0, none⟩ = some (.int .i64 t628) := (blk_cell BK632.out 0).trans rfl
        have hcz81_1 : wc.cell? ⟨gb632, 1, none⟩ = some (.slice Ao33 t629.length co33) := (blk_cell BK632.out 1).trans rfl
        have hfz81_0 := blk_frozen BK632.out 0
        have hfz81_1 := blk_frozen BK632.out 1
        go_wp2_with (first | ((with_reducible refine gate_callee (f := 17) rfl ?_); refine goesL_ (some 59) rfl rfl Tryz.func17 zq5 rfl #[.agg #[.int .i64 t628, .slice Ao33 t629.length co33], .int .i64 1] rfl zq1 ?_; (with_reducible refine (laws_markLinesResult.calls kj18 t628 (fun k_ => some k_ = (.slice Ao33 t629.length co33 : Value).ownBlock) (.slice Ao33 t629.length co33) t629 1 t641 t642 w _ ?side1 ?side2 A47.out).mono ?_); (case side1 => repeat (first | (with_reducible first | exact HB.out | apply zA | apply zN | apply zD | refine below_set ?_ GE624.out | refine below_set ?_ GE632.out) | exact HB.out)); (case side2 => exact Kd.R_tight rfl HO_633001.out); rintro e w82 ⟨rfl, hy0, hb, hkp⟩; refine ⟨_, rfl, ?_⟩; have n0_ := zK (Kd.R_mono (ok' := fun k_ => some k_ ≠ (.slice Ao33 t629.length co33 : Value).ownBlock) (Kd.R_keptB (HO_625001.out) hkp (fun k_ hk_ hs_ => (hk_) hs_)) (fun k_ hk_ => hk_.1)); have n1_ := zK (Kd.R_reok rfl hy0 (fun k_ e_ => HO_633001.out.1 k_ e_)); have n2_ := zK (blk_kept (by (with_reducible repeat (first | refine zM ?_ _ | refine zP ?_ | refine zQ ?_ _)); exact BK624.out) hkp (fun hs_ => (fun e_ => (Kd.R_ne HO_633001.out BK624.out zq10) e_) hs_)); have n3_ := zK (blk_kept (by (with_reducible repeat (first | refine zM ?_ _ | refine zP ?_ | refine zQ ?_ _)); exact BK632.out) hkp (fun hs_ => (fun e_ => (Kd.R_ne HO_633001.out BK632.out zq10) e_) hs_)); have n4_ := zK (hb); clear HO_625001; clear HO_633001; clear BK624; clear BK632; clear HB; have HO_625001 := n0_; have HO_633001 := n1_; have BK624 := n2_; have BK632 := n3_; have HB := n4_; clear n0_ n1_ n2_ n3_ n4_; (try clear hb); (try clear hkp); (try clear hy0); have hcz83_0 : w82.cell? ⟨gb632, 0, none⟩ = some (.int .i64 t628) := (blk_cell BK632.out 0).trans rfl; have hcz83_1 : w82.cell? ⟨gb632, 1, none⟩ = some (.slice Ao33 t629.length co33) := (blk_cell BK632.out 1).trans rfl; have hfz83_0 := blk_frozen BK632.out 0; have hfz83_1 := blk_frozen BK632.out 1) | ((with_reducible refine gate_callee (f := 18) rfl ?_); refine goesL_ (some 62) rfl rfl Tryz.func18 zq5 rfl #[.agg #[.int .i64 t628, .slice Ao33 t642.length co33], .int .i64 1] rfl zq31 ?_; (with_reducible refine (laws_heldLinesResult.calls kj18 t628 _ _ t642 1 t643 _ ?side1 ?side2 A48.out).mono ?_); (case side1 => repeat (first | exact (Kd.R_reads' HO_633001.out).2.2 | (with_reducible refine Kd.C_alloc ?_ _) | (with_reducible refine Kd.C_drewN ?_ _) | (with_reducible refine Kd.C_drew ?_))); (case side2 => rw [show t642.length = t629.length from (Kd.R_reads' HO_633001.out).1.symm]; exact (Kd.R_reads' HO_633001.out).2.1); rintro e w84 ⟨rfl, hb⟩; refine ⟨_, rfl, ?_⟩; have n0_ := zK (Kd.R_below zq19 hb); have n1_ := zK (Kd.R_below zq18 hb); have n2_ := zK (blk_below (g := gb624) (o := .cells #[.int .i64 t620, .slice Ao26 t621.length co26] 31 (0, 0)) (by (with_reducible repeat (first | refine zM ?_ _ | refine zP ?_ | refine zQ ?_ _)); exact BK624.out) hb); have n3_ := zK (blk_below (g := gb632) (o := .cells #[.int .i64 t628, .slice Ao33 t629.length co33] 31 (0, 0)) (by (with_reducible repeat (first | refine zM ?_ _ | refine zP ?_ | refine zQ ?_ _)); exact BK632.out) hb); have n4_ := zK (below_step (by repeat (first | (with_reducible first | exact HB.out | apply zA | apply zN | apply zD | refine below_set ?_ GE624.out | refine below_set ?_ GE632.out) | exact HB.out)) hb); clear HO_625001; clear HO_633001; clear BK624; clear BK632; clear HB; have HO_625001 := n0_; have HO_633001 := n1_; have BK624 := n2_; have BK632 := n3_; have HB := n4_; clear n0_ n1_ n2_ n3_ n4_; (try clear hb); (try clear hb2); (try clear hk); (try clear hi)) | ((with_reducible refine gate_callee (f := 10) rfl ?_); refine goesL_ (some 69) rfl rfl Tryz.func10 zq5 rfl #[.slice A0 l0.length c0] rfl zq1 ?_; (with_reducible refine (laws_toObjectS.calls kj18 _ _ l0 t644 _ ?side1 ?side2 A56.out).mono ?_); (case side1 => repeat (first | exact (Kd.C_below HR0.out HB.out) | (with_reducible refine Kd.C_alloc ?_ _) | (with_reducible refine Kd.C_drewN ?_ _) | (with_reducible refine Kd.C_drew ?_))); (case side2 => exact HC0.out); rintro e w85 ⟨v645, rfl, ho0, hb⟩; refine ⟨_, rfl, ?_⟩; have n0_ := zK (Kd.R_below zq19 hb); have n1_ := zK (Kd.R_below zq18 hb); have n2_ := zK (Kd.R_lower ho0 (below_size (by repeat (first | (with_reducible first | exact HB.out | apply zA | apply zN | apply zD | refine below_set ?_ GE624.out | refine below_set ?_ GE632.out) | exact HB.out)))); have n3_ := zK (blk_below (g := gb624) (o := .cells #[.int .i64 t620, .slice Ao26 t621.length co26] 31 (0, 0)) (by (with_reducible repeat (first | refine zM ?_ _ | refine zP ?_ | refine zQ ?_ _)); exact BK624.out) hb); have n4_ := zK (blk_below (g := gb632) (o := .cells #[.int .i64 t628, .slice Ao33 t629.length co33] 31 (0, 0)) (by (with_reducible repeat (first | refine zM ?_ _ | refine zP ?_ | refine zQ ?_ _)); exact BK632.out) hb); have n5_ := zK (below_step (by repeat (first | (with_reducible first | exact HB.out | apply zA | apply zN | apply zD | refine below_set ?_ GE624.out | refine below_set ?_ GE632.out) | exact HB.out)) hb); clear HO_625001; clear HO_633001; clear BK624; clear BK632; clear HB; have HO_625001 := n0_; have HO_633001 := n1_; have HO646 := n2_; have BK624 := n3_; have BK632 := n4_; have HB := n5_; clear n0_ n1_ n2_ n3_ n4_ n5_; (try clear hb); (try clear hb2); (try clear hk); (try clear hi); (try clear ho0); obtain ⟨Ao86, co86, eo86⟩ := Kd.R_slice HO646.out; subst eo86) | ((with_reducible refine gate_callee (f := 23) rfl ?_); refine goesL_ (some 72) rfl rfl Tryz.func23 zq5 rfl #[.slice Ao86 t644.length co86, .string a1, .string a2] rfl zq1 ?_; (with_reducible refine (impl_BasesOf.calls kj18 _ _ t644 a1 a2 t647 t648 _ ?side1 ?side2 (Gt.below HG.out (by repeat (first | (with_reducible first | exact HB.out | apply zA | apply zN | apply zD | refine below_set ?_ GE624.out | refine below_set ?_ GE632.out) | exact HB.out))) A57.out).mono ?_); (case side1 => repeat (first | exact (Kd.R_reads' HO646.out).2.2 | (with_reducible refine Kd.C_alloc ?_ _) | (with_reducible refine Kd.C_drewN ?_ _) | (with_reducible refine Kd.C_drew ?_))); (case side2 => exact (Kd.R_reads' HO646.out).2.1); rintro e w87 ⟨v649, rfl, ho0, hb⟩; refine ⟨_, rfl, ?_⟩; have n0_ := zK (Kd.R_elder' zq19 (Kd.R_base ho0) hb); have n1_ := zK (Kd.R_elder' zq18 (Kd.R_base ho0) hb); have n2_ := zK (Kd.R_below zq35 hb); have n3_ := zK (Kd.R_lower (Kd.R_new' (Kd.R_new' ho0 (Kd.R_lt zq19)) (Kd.R_lt zq18)) (below_size (by repeat (first | (with_reducible first | exact HB.out | apply zA | apply zN | apply zD | refine below_set ?_ GE624.out | refine below_set ?_ GE632.out) | exact HB.out)))); have n4_ := zK (blk_below (g := gb624) (o := .cells #[.int .i64 t620, .slice Ao26 t621.length co26] 31 (0, 0)) (by (with_reducible repeat (first | refine zM ?_ _ | refine zP ?_ | refine zQ ?_ _)); exact BK624.out) hb); have n5_ := zK (blk_below (g := gb632) (o := .cells #[.int .i64 t628, .slice Ao33 t629.length co33] 31 (0, 0)) (by (with_reducible repeat (first | refine zM ?_ _ | refine zP ?_ | refine zQ ?_ _)); exact BK632.out) hb); have n6_ := zK (below_step (by repeat (first | (with_reducible first | exact HB.out | apply zA | apply zN | apply zD | refine below_set ?_ GE624.out | refine below_set ?_ GE632.out) | exact HB.out)) hb); clear HO_625001; clear HO_633001; clear HO646; clear BK624; clear BK632; clear HB; have HO_625001 := n0_; have HO_633001 := n1_; have HO646 := n2_; have HO650 := n3_; have BK624 := n4_; have BK632 := n5_; have HB := n6_; clear n0_ n1_ n2_ n3_ n4_ n5_ n6_; (try clear hb); (try clear hb2); (try clear hk); (try clear hi); (try clear ho0)) | ((with_reducible refine gate_dst (N := 14) rfl ?_); refine box_event ?hg (N := 14) ?hd (cs := #[.int .i64 0, .slice none 0 0]) (t := 31) ?hr ?_; (case hd => rfl); (case hg => rfl); (case hr => first | (go_simp; done) | (go_simp; rfl)); intro gb651 hg w88 hbox hb; have n0_ := zK (Kd.R_below zq19 hb); have n1_ := zK (Kd.R_below zq18 hb); have n2_ := zK (Kd.R_below zq35 hb); have n3_ := zK (Kd.R_below (by (with_reducible repeat (first | apply zR | apply zV | apply zW)); exact HO650.out) hb); have n4_ := zK (blk_below (g := gb624) (o := .cells #[.int .i64 t620, .slice Ao26 t621.length co26] 31 (0, 0)) (by (with_reducible repeat (first | refine zM ?_ _ | refine zP ?_ | refine zQ ?_ _)); exact BK624.out) hb); have n5_ := zK (blk_below (g := gb632) (o := .cells #[.int .i64 t628, .slice Ao33 t629.length co33] 31 (0, 0)) (by (with_reducible repeat (first | refine zM ?_ _ | refine zP ?_ | refine zQ ?_ _)); exact BK632.out) hb); have n6_ := zK (below_step (by repeat (first | (with_reducible first | exact HB.out | apply zA | apply zN | apply zD | refine below_set ?_ GE624.out | refine below_set ?_ GE632.out) | exact HB.out)) hb); have n7_ := zK (hbox); have n8_ := zK ((by rw [hg]; exact (below_size (by repeat (first | (with_reducible first | exact HB.out | apply zA | apply zN | apply zD | refine below_set ?_ GE624.out | refine below_set ?_ GE632.out) | exact HB.out))) : w.heap.size ≤ gb651)); have n9_ := zK ((by rw [hg]; exact (below_size (by repeat (first | (with_reducible first | exact HB.out | apply zA | apply zN | apply zD | refine below_set ?_ GE624.out | refine below_set ?_ GE632.out) | exact HB.out))) : w.heap.size ≤ gb651)); have n10_ := zK ((by rw [hg]; exact Nat.ne_of_lt (blk_lt (g := gb624) (o := .cells #[.int .i64 t620, .slice Ao26 t621.length co26] 31 (0, 0)) (by (with_reducible repeat (first | refine zM ?_ _ | refine zP ?_ | refine zQ ?_ _)); exact BK624.out)) : gb624 ≠ gb651)); have n11_ := zK ((by rw [hg]; exact Nat.ne_of_gt (blk_lt (g := gb624) (o := .cells #[.int .i64 t620, .slice Ao26 t621.length co26] 31 (0, 0)) (by (with_reducible repeat (first | refine zM ?_ _ | refine zP ?_ | refine zQ ?_ _)); exact BK624.out)) : gb651 ≠ gb624)); have n12_ := zK ((by rw [hg]; exact Nat.ne_of_lt (blk_lt (g := gb632) (o := .cells #[.int .i64 t628, .slice Ao33 t629.length co33] 31 (0, 0)) (by (with_reducible repeat (first | refine zM ?_ _ | refine zP ?_ | refine zQ ?_ _)); exact BK632.out)) : gb632 ≠ gb651)); have n13_ := zK ((by rw [hg]; exact Nat.ne_of_gt (blk_lt (g := gb632) (o := .cells #[.int .i64 t628, .slice Ao33 t629.length co33] 31 (0, 0)) (by (with_reducible repeat (first | refine zM ?_ _ | refine zP ?_ | refine zQ ?_ _)); exact BK632.out)) : gb651 ≠ gb632)); clear HO_625001; clear HO_633001; clear HO646; clear HO650; clear BK624; clear BK632; clear HB; have HO_625001 := n0_; have HO_633001 := n1_; have HO646 := n2_; have HO650 := n3_; have BK624 := n4_; have BK632 := n5_; have HB := n6_; have BK651 := n7_; have GW651 := n8_; have GE651 := n9_; have NB624_651 := n10_; have NB651_624 := n11_; have NB632_651 := n12_; have NB651_632 := n13_; clear n0_ n1_ n2_ n3_ n4_ n5_ n6_ n7_ n8_ n9_ n10_ n11_ n12_ n13_; clear hb hbox hg; have hnb89 := NB651_624.out; have hnc89 := NB624_651.out; have hnb90 := NB651_632.out; have hnc90 := NB632_651.out; have hcz91_0 : w88.cell? ⟨gb651, 0, none⟩ = some (.int .i64 0) := (blk_cell BK651.out 0).trans rfl; have hcz91_1 : w88.cell? ⟨gb651, 1, none⟩ = some (.slice none 0 0) := (blk_cell BK651.out 1).trans rfl; have hfz91_0 := blk_frozen BK651.out 0; have hfz91_1 := blk_frozen BK651.out 1; obtain ⟨Ao92, co92, eo92⟩ := Kd.R_slice HO650.out; subst eo92; have hcz93_0 : w88.cell? ⟨gb624, 0, none⟩ = some (.int .i64 t620) := (blk_cell BK624.out 0).trans rfl; have hcz93_1 : w88.cell? ⟨gb624, 1, none⟩ = some (.slice Ao26 t621.length co26) := (blk_cell BK624.out 1).trans rfl; have hfz93_0 := blk_frozen BK624.out 0; have hfz93_1 := blk_frozen BK624.out 1) | ((with_reducible refine gate_callee (f := 15) rfl ?_); refine goesL_ (some 75) rfl rfl Tryz.func15 zq5 rfl #[.agg #[.int .i64 t647, .slice Ao92 t648.length co92], .agg #[.int .i64 t620, .slice Ao26 t621.length co26]] rfl zq1 ?_; (with_reducible refine (laws_eqLinesResult.calls kj18 t647 _ _ t648 t620 _ _ t621 true _ ?side1 ?side2 ?side3 ?side4 A58.out).mono ?_); (case side1 => refine (Kd.R_reads' (e := 9) (base := w.heap.size) (ok := fun k_ => ((True ∧ some k_ ≠ (.slice Ao26 t621.length co26 : Value).ownBlock) ∧ some k_ ≠ (.slice Ao33 t629.length co33 : Value).ownBlock)) (n := t648.length) (c := co92) ?_).2.2; exact (by (with_reducible repeat (first | apply zR | apply zV | apply zW)); exact (Kd.R_mono (Kd.R_far (p := ⟨gb651, 1, none⟩) (Kd.R_far (p := ⟨gb651, 0, none⟩) (Kd.R_types HO650.out BK651.out zq10) (fun _ hk => hk.2) (.int .i64 t647)) (fun _ hk => hk.2) (.slice Ao92 t648.length co92)) (fun _ h_ => h_.1)))); (case side2 => exact (Kd.R_reads' HO650.out).2.1); (case side3 => refine (Kd.R_reads' (e := 9) (base := w.heap.size) (ok := fun k_ => (some k_ ≠ (.slice Ao33 t629.length co33 : Value).ownBlock ∧ some k_ ≠ (.slice Ao92 t648.length co92 : Value).ownBlock)) (n := t621.length) (c := co26) ?_).2.2; exact (by (with_reducible repeat (first | apply zR | apply zV | apply zW)); exact (Kd.R_mono (Kd.R_far (p := ⟨gb651, 1, none⟩) (Kd.R_far (p := ⟨gb651, 0, none⟩) (Kd.R_types HO_625001.out BK651.out zq10) (fun _ hk => hk.2) (.int .i64 t647)) (fun _ hk => hk.2) (.slice Ao92 t648.length co92)) (fun _ h_ => h_.1)))); (case side4 => exact (Kd.R_reads' HO_625001.out).2.1); rintro e w94 ⟨rfl, hb⟩; refine ⟨_, rfl, ?_⟩; have n0_ := zK (Kd.R_below (by (with_reducible repeat (first | apply zR | apply zV | apply zW)); exact (Kd.R_mono (Kd.R_far (p := ⟨gb651, 1, none⟩) (Kd.R_far (p := ⟨gb651, 0, none⟩) (Kd.R_types HO_625001.out BK651.out zq10) (fun _ hk => hk.2) (.int .i64 t647)) (fun _ hk => hk.2) (.slice Ao92 t648.length co92)) (fun _ h_ => h_.1))) hb); have n1_ := zK (Kd.R_below (by (with_reducible repeat (first | apply zR | apply zV | apply zW)); exact (Kd.R_mono (Kd.R_far (p := ⟨gb651, 1, none⟩) (Kd.R_far (p := ⟨gb651, 0, none⟩) (Kd.R_types HO_633001.out BK651.out zq10) (fun _ hk => hk.2) (.int .i64 t647)) (fun _ hk => hk.2) (.slice Ao92 t648.length co92)) (fun _ h_ => h_.1))) hb); have n2_ := zK (Kd.R_below (by (with_reducible repeat (first | apply zR | apply zV | apply zW)); exact (Kd.R_mono (Kd.R_far (p := ⟨gb651, 1, none⟩) (Kd.R_far (p := ⟨gb651, 0, none⟩) (Kd.R_types HO646.out BK651.out zq10) (fun _ hk => hk.2) (.int .i64 t647)) (fun _ hk => hk.2) (.slice Ao92 t648.length co92)) (fun _ h_ => h_.1))) hb); have n3_ := zK (Kd.R_below (by (with_reducible repeat (first | apply zR | apply zV | apply zW)); exact (Kd.R_mono (Kd.R_far (p := ⟨gb651, 1, none⟩) (Kd.R_far (p := ⟨gb651, 0, none⟩) (Kd.R_types HO650.out BK651.out zq10) (fun _ hk => hk.2) (.int .i64 t647)) (fun _ hk => hk.2) (.slice Ao92 t648.length co92)) (fun _ h_ => h_.1))) hb); have n4_ := zK (blk_below (g := gb624) (o := .cells #[.int .i64 t620, .slice Ao26 t621.length co26] 31 (0, 0)) (by (with_reducible repeat (first | refine zM ?_ _ | refine zP ?_ | refine zQ ?_ _)); refine blk_far ?_ NB624_651.out _; (with_reducible repeat (first | refine zM ?_ _ | refine zP ?_ | refine zQ ?_ _)); refine blk_far ?_ NB624_651.out _; (with_reducible repeat (first | refine zM ?_ _ | refine zP ?_ | refine zQ ?_ _)); exact BK624.out) hb); have n5_ := zK (blk_below (g := gb632) (o := .cells #[.int .i64 t628, .slice Ao33 t629.length co33] 31 (0, 0)) (by (with_reducible repeat (first | refine zM ?_ _ | refine zP ?_ | refine zQ ?_ _)); refine blk_far ?_ NB632_651.out _; (with_reducible repeat (first | refine zM ?_ _ | refine zP ?_ | refine zQ ?_ _)); refine blk_far ?_ NB632_651.out _; (with_reducible repeat (first | refine zM ?_ _ | refine zP ?_ | refine zQ ?_ _)); exact BK632.out) hb); have n6_ := zK (blk_below (g := gb651) (o := .cells #[.int .i64 t647, .slice Ao92 t648.length co92] 31 (0, 0)) (by (with_reducible repeat (first | refine zM ?_ _ | refine zP ?_ | refine zQ ?_ _)); refine blk_put (cs := #[.int .i64 t647, .slice none 0 0]) ?_ 1 _ rfl; (with_reducible repeat (first | refine zM ?_ _ | refine zP ?_ | refine zQ ?_ _)); refine blk_put (cs := #[.int .i64 0, .slice none 0 0]) ?_ 0 _ rfl; (with_reducible repeat (first | refine zM ?_ _ | refine zP ?_ | refine zQ ?_ _)); exact BK651.out) hb); have n7_ := zK (below_step (by repeat (first | (with_reducible first | exact HB.out | apply zA | apply zN | apply zD | refine below_set ?_ GE624.out | refine below_set ?_ GE632.out | refine below_set ?_ GE651.out) | exact HB.out)) hb); clear HO_625001; clear HO_633001; clear HO646; clear HO650; clear BK624; clear BK632; clear BK651; clear HB; have HO_625001 := n0_; have HO_633001 := n1_; have HO646 := n2_; have HO650 := n3_; have BK624 := n4_; have BK632 := n5_; have BK651 := n6_; have HB := n7_; clear n0_ n1_ n2_ n3_ n4_ n5_ n6_ n7_; (try clear hb); (try clear hb2); (try clear hk); (try clear hi); have hcz95_0 : w94.cell? ⟨gb632, 0, none⟩ = some (.int .i64 t628) := (blk_cell BK632.out 0).trans rfl; have hcz95_1 : w94.cell? ⟨gb632, 1, none⟩ = some (.slice Ao33 t629.length co33) := (blk_cell BK632.out 1).trans rfl; have hfz95_0 := blk_frozen BK632.out 0; have hfz95_1 := blk_frozen BK632.out 1) | ((with_reducible refine gate_callee (f := 18) rfl ?_); refine goesL_ (some 79) rfl rfl Tryz.func18 zq5 rfl #[.agg #[.int .i64 t628, .slice Ao33 t642.length co33], .int .i64 1] rfl zq31 ?_; (with_reducible refine (laws_heldLinesResult.calls kj18 t628 _ _ t642 1 t653 _ ?side1 ?side2 A60.out).mono ?_); (case side1 => repeat (first | exact (Kd.R_reads' HO_633001.out).2.2 | (with_reducible refine Kd.C_alloc ?_ _) | (with_reducible refine Kd.C_drewN ?_ _) | (with_reducible refine Kd.C_drew ?_))); (case side2 => rw [show t642.length = t629.length from (Kd.R_reads' HO_633001.out).1.symm]; exact (Kd.R_reads' HO_633001.out).2.1); rintro e w96 ⟨rfl, hb⟩; refine ⟨_, rfl, ?_⟩; have n0_ := zK (Kd.R_below zq19 hb); have n1_ := zK (Kd.R_below zq18 hb); have n2_ := zK (Kd.R_below zq35 hb); have n3_ := zK (Kd.R_below (by (with_reducible repeat (first | apply zR | apply zV | apply zW)); exact HO650.out) hb); have n4_ := zK (blk_below (g := gb624) (o := .cells #[.int .i64 t620, .slice Ao26 t621.length co26] 31 (0, 0)) (by (with_reducible repeat (first | refine zM ?_ _ | refine zP ?_ | refine zQ ?_ _)); exact BK624.out) hb); have n5_ := zK (blk_below (g := gb632) (o := .cells #[.int .i64 t628, .slice Ao33 t629.length co33] 31 (0, 0)) (by (with_reducible repeat (first | refine zM ?_ _ | refine zP ?_ | refine zQ ?_ _)); exact BK632.out) hb); have n6_ := zK (blk_below (g := gb651) (o := .cells #[.int .i64 t647, .slice Ao92 t648.length co92] 31 (0, 0)) (by (with_reducible repeat (first | refine zM ?_ _ | refine zP ?_ | refine zQ ?_ _)); exact BK651.out) hb); have n7_ := zK (below_step (by repeat (first | (with_reducible first | exact HB.out | apply zA | apply zN | apply zD | refine below_set ?_ GE624.out | refine below_set ?_ GE632.out | refine below_set ?_ GE651.out) | exact HB.out)) hb); clear HO_625001; clear HO_633001; clear HO646; clear HO650; clear BK624; clear BK632; clear BK651; clear HB; have HO_625001 := n0_; have HO_633001 := n1_; have HO646 := n2_; have HO650 := n3_; have BK624 := n4_; have BK632 := n5_; have BK651 := n6_; have HB := n7_; clear n0_ n1_ n2_ n3_ n4_ n5_ n6_ n7_; (try clear hb); (try clear hb2); (try clear hk); (try clear hi)))
        go_ret
        exact ⟨zq3, (by repeat (first | (with_reducible first | exact HB.out | apply zA | apply zN | apply zD | refine below_set ?_ GE624.out | refine below_set ?_ GE632.out | refine below_set ?_ GE651.out) | exact HB.out))⟩
       rw [if_neg c79] at H
       have c79b0 : (t653 == t641) = false := beq_eq_false_iff_ne.mpr c79
       have c79b1 : (t653 != t641) = true := bne_iff_ne.mpr c79
       exact absurd ((Option.some.inj H).trans hT_) zq10
      replace c59 := Bool.eq_false_iff.mpr c59
      subst c59
      have H1 : (some false) = some r := by rw [if_neg (show ¬ (false = true) by decide)] at H; exact H
      clear H
      have H := H1
      clear H1
      exact absurd ((Option.some.inj H).trans hT_) zq10
     rw [if_neg c55] at H
     have c55b0 : (t643 == t641) = false := beq_eq_false_iff_ne.mpr c55
     have c55b1 : (t643 != t641) = true := bne_iff_ne.mpr c55
     exact absurd ((Option.some.inj H).trans hT_) zq10
  replace c17 := Bool.eq_false_iff.mpr c17
  subst c17
  have H1 : (some false) = some r := by rw [if_neg (show ¬ (false = true) by decide)] at H; exact H
  clear H
  have H := H1
  clear H1
  exact absurd ((Option.some.inj H).trans hT_) zq10
 replace c14 := Bool.eq_false_iff.mpr c14
 subst c14
 have H1 : (some false) = some r := by rw [if_neg (show ¬ (false = true) by decide)] at H; exact H
 clear H
 have H := H1
 clear H1
 exact absurd ((Option.some.inj H).trans hT_) zq10
end Go.Proofs.YtpnoghcdfbmpoaaGreatDoor.PX

namespace Go.Proofs.YtpnoghcdfbmpoaaGreatDoorX
open Go Go.RowKit Go.Proofs.YtpnoghcdfbmpoaaGreatDoorW.PrintWords Go.Proofs.YtpnoghcdfbmpoaaGreatDoor.PX
open Go.Proofs.YtpnoghcdfbmpoaaGreatDoor.PX.X (okO hasB hasS hasB_mem rdS histI histI_all ancI ancI_all bestP bestV bothV both_len best_sub basV basC)
set_option linter.unusedVariables false
set_option linter.unusedSimpArgs false
theorem any_step (p : ByteArray → Bool) (B : List ByteArray) (j : Nat) (hj : j < B.length) : (B.take (j + 1)).any p = ((B.take j).any p || p (B.getD j ByteArray.empty)) := by
 rw [List.take_succ_eq_append_getElem hj, List.any_append, List.any_cons, List.any_nil, Bool.or_false, List.getD_eq_getElem?_getD, List.getElem?_eq_getElem hj, Option.getD_some]
theorem filter_step (p : ByteArray → Bool) (B : List ByteArray) (j : Nat) (hj : j < B.length) : (B.take (j + 1)).filter p = (B.take j).filter p ++ (if p (B.getD j ByteArray.empty) = true then [B.getD j ByteArray.empty] else []) := by
 rw [List.take_succ_eq_append_getElem hj, List.filter_append, List.getD_eq_getElem?_getD, List.getElem?_eq_getElem hj, Option.getD_some, List.filter_cons]
 rfl
theorem getB_mem {B : List ByteArray} {j : Nat} (hj : j < B.length) : B.getD j ByteArray.empty ∈ B := by
 rw [List.getD_eq_getElem?_getD, List.getElem?_eq_getElem hj, Option.getD_some]
 exact List.getElem_mem hj
theorem nodup_getD {B : List ByteArray} (hn : B.Nodup) {i j : Nat} (hi : i < B.length) (hj : j < B.length) (h : B.getD j ByteArray.empty = B.getD i ByteArray.empty) : j = i := by
 rw [List.getD_eq_getElem?_getD, List.getElem?_eq_getElem hj, Option.getD_some, List.getD_eq_getElem?_getD, List.getElem?_eq_getElem hi, Option.getD_some] at h
 exact (List.getElem_inj hn).1 h
theorem bases_l2 (l : List IObj) (h : okO l) (B : List ByteArray) (hn : B.Nodup) (hlen : B.length ≤ 100) (hsz : ∀ x ∈ B, x.size ≤ 9223372036854775807) (i : Nat) (hi : i < B.length) (L : List ByteArray) (hL : L.length ≤ 100) (K : Nat) (hK : 9000301 ≤ K) (R : List ByteArray)
 (hR : ∀ k, K ≤ k → spec_l9Bases.l1 k l B (if bestP (ancI l) B (B.getD i ByteArray.empty) = true then L else L ++ [B.getD i ByteArray.empty]) ((i + 1 : Nat) : Int) = some R) :
 ∀ (d j : Nat), j + d = B.length → ∀ k, K + d < k → spec_l9Bases.l2 k l B L (i : Int) (!((B.take j).any fun o => decide (o ≠ B.getD i ByteArray.empty) && ancI l (B.getD i ByteArray.empty) o)) (j : Int) = some R
 | 0, j, hj, k, hk => by
   obtain ⟨k, rfl⟩ : ∃ m, k = m + 1 := ⟨k - 1, by omega⟩
   have hw : wrap64 ((i : Int) + 1) = ((i + 1 : Nat) : Int) := (wrap_in zq6 zq6).trans zq6
   have hR2 := hR k zq6
   have ej : B.take j = B := by rw [show j = B.length by omega, List.take_length]
   rw [spec_l9Bases.l2, if_neg zq6, ej, hw]
   change (if (!(bestP (ancI l) B (B.getD i ByteArray.empty))) = true then _ else _) = _
   cases hb : bestP (ancI l) B (B.getD i ByteArray.empty) with
   | true =>
     rw [hb, if_pos rfl] at hR2
     rw [if_neg zq10]
     exact hR2
   | false =>
     rw [hb, if_neg zq10] at hR2
     rw [if_pos zq10, if_pos zq6, if_pos zq6, if_pos zq6, rdS]
     exact hR2
 | d + 1, j, hj, k, hk => by
   obtain ⟨k, rfl⟩ : ∃ m, k = m + 1 := ⟨k - 1, by omega⟩
   have hw : wrap64 ((j : Int) + 1) = ((j + 1 : Nat) : Int) := (wrap_in zq6 zq6).trans zq6
   have ih := bases_l2 l h B hn hlen hsz i hi L hL K hK R hR d (j + 1) zq6 k zq6
   rw [any_step _ B j zq6] at ih
   rw [spec_l9Bases.l2, if_pos zq6, hw]
   cases hf : (B.take j).any fun o => decide (o ≠ B.getD i ByteArray.empty) && ancI l (B.getD i ByteArray.empty) o with
   | true =>
     rw [hf, Bool.true_or] at ih
     rw [if_neg zq10]
     exact ih
   | false =>
     rw [hf, Bool.false_or] at ih
     rw [if_pos zq10]
     by_cases hij : i = j
     · rw [if_pos zq6]
       rw [← hij, decide_eq_false (fun z => z rfl), Bool.false_and] at ih
       rw [← hij]
       exact ih
     · rw [if_neg zq6, if_pos zq6, if_pos zq6, if_pos zq6, rdS, rdS, (ancI_all h _ _ (hsz _ (getB_mem zq6)) k zq6).2, Option.bind_some]
       rw [decide_eq_true (show B.getD j ByteArray.empty ≠ B.getD i ByteArray.empty from fun z => hij (nodup_getD hn hi zq6 z).symm), Bool.true_and] at ih
       exact ih
theorem bases_l1 (l : List IObj) (h : okO l) (B : List ByteArray) (hn : B.Nodup) (hlen : B.length ≤ 100) (hsz : ∀ x ∈ B, x.size ≤ 9223372036854775807) :
 ∀ (d i : Nat) (L : List ByteArray), i + d = B.length → L = (B.take i).filter (fun x => !bestP (ancI l) B x) → ∀ k, 9000302 + d * 200 < k → spec_l9Bases.l1 k l B L (i : Int) = some (bestV (ancI l) B)
 | 0, i, L, hi, hL, k, hk => by
   obtain ⟨k, rfl⟩ : ∃ m, k = m + 1 := ⟨k - 1, by omega⟩
   rw [spec_l9Bases.l1, if_neg zq6, hL, show i = B.length by omega, List.take_length]
   rfl
 | d + 1, i, L, hi, hL, k, hk => by
   obtain ⟨k, rfl⟩ : ∃ m, k = m + 1 := ⟨k - 1, by omega⟩
   rw [spec_l9Bases.l1, if_pos zq6]
   have hLl : L.length ≤ 100 := by
    have := List.length_filter_le (fun x => !bestP (ancI l) B x) (B.take i)
    rw [← hL, List.length_take] at this
    omega
   have key := bases_l2 l h B hn hlen hsz i zq6 L hLl (9000303 + d * 200) zq6 (bestV (ancI l) B) (fun k hk => bases_l1 l h B hn hlen hsz d (i + 1) _ zq6 (by
    rw [filter_step _ B i zq6, ← hL]
    cases bestP (ancI l) B (B.getD i ByteArray.empty) with
    | true => exact (List.append_nil L).symm
    | false => rfl) k zq6) B.length 0 zq6 k zq6
   exact key
theorem bases_l0 (l : List IObj) (h : okO l) (X Y : List ByteArray) (hn : X.Nodup) (hlen : X.length ≤ 100) (hY : Y.length ≤ 100) (hsz : ∀ x ∈ X, x.size ≤ 9223372036854775807) :
 ∀ (d i : Nat) (L : List ByteArray), i + d = X.length → L = (X.take i).filter (fun x => !(!hasB Y x)) → ∀ k, 9020402 + d < k → spec_l9Bases.l0 k l X Y L (i : Int) = some (bestV (ancI l) (bothV X Y))
 | 0, i, L, hi, hL, k, hk => by
   obtain ⟨k, rfl⟩ : ∃ m, k = m + 1 := ⟨k - 1, by omega⟩
   have hb := both_len X Y
   rw [spec_l9Bases.l0, if_neg zq6, hL, show i = X.length by omega, List.take_length]
   exact bases_l1 l h (bothV X Y) (hn.filter _) zq6 (fun x hx => hsz x (best_sub X Y x hx)) (bothV X Y).length 0 [] zq6 rfl k zq6
 | d + 1, i, L, hi, hL, k, hk => by
   obtain ⟨k, rfl⟩ : ∃ m, k = m + 1 := ⟨k - 1, by omega⟩
   have hw : wrap64 ((i : Int) + 1) = ((i + 1 : Nat) : Int) := (wrap_in zq6 zq6).trans zq6
   have hLl : L.length ≤ 100 := by
    have := List.length_filter_le (fun x => !(!hasB Y x)) (X.take i)
    rw [← hL, List.length_take] at this
    omega
   have hfs := filter_step (fun x => !(!hasB Y x)) X i zq6
   rw [← hL] at hfs
   rw [spec_l9Bases.l0, if_pos zq6, if_pos zq6, rdS, hasS Y _ zq6 k zq6, Option.bind_some, hw]
   cases hb : hasB Y (X.getD i ByteArray.empty) with
   | true =>
     rw [if_pos rfl, if_pos zq6]
     exact bases_l0 l h X Y hn hlen hY hsz d (i + 1) _ zq6 (by rw [hfs, hb]; rfl) k zq6
   | false =>
     rw [if_neg zq10]
     exact bases_l0 l h X Y hn hlen hY hsz d (i + 1) _ zq6 (by rw [hfs, hb]; exact (List.append_nil L).symm) k zq6
open Go.Proofs.YtpnoghcdfbmpoaaGreatDoor.PX.X (okO histI histI_all ancI bestV bothV both_len basV basC)
set_option linter.unusedVariables false
set_option linter.unusedSimpArgs false
theorem bases_same (l : List IObj) (hs : oSmall l) (a b : ByteArray) (ha : a.size ≤ 9223372036854775807) (hb : b.size ≤ 9223372036854775807) : ∃ V : Int × List ByteArray, V.2.length ≤ 100 ∧ ∀ k, 9030000 < k → impl_BasesOf.f k l a b = some V ∧ spec_BasesOf.f k l a b = some V := by
 by_cases h : storeV l = 0
 · have hok := ok_of_store hs h
   obtain ⟨q1, q2, q3, q4, q5⟩ := histI_all hok a ha
   obtain ⟨p1, p2, p3, p4, p5⟩ := histI_all hok b hb
   have hbl := both_len (histI l a).1 (histI l b).1
   have hbv : (bestV (ancI l) (bothV (histI l a).1 (histI l b).1)).length ≤ 100 := Nat.le_trans (List.length_filter_le _ _) zq6
   refine ⟨(basC l a b, if basC l a b = 0 then basV l a b else []), ?_, fun k hk => ⟨?_, ?_⟩⟩
   · show (if basC l a b = 0 then basV l a b else []).length ≤ 100
     split
     · exact hbv
     · exact Nat.zero_le _
   · unfold impl_BasesOf.f impl_basesOf.f X.basF
     rw [impl_store l hs k zq6, Option.bind_some, if_pos h, if_pos ⟨by omega, hok, ha, hb⟩, Option.bind_some]
   · unfold spec_BasesOf.f spec_l9Both.f
     rw [spec_store l hs k zq6, Option.bind_some, if_pos h, (q1 k zq6).2, Option.bind_some]
     unfold basC
     by_cases c1 : (histI l a).2 = 0
     · rw [if_pos c1, if_pos c1, (p1 k zq6).2, Option.bind_some, Option.bind_some]
       by_cases c2 : (histI l b).2 = 0
       · rw [if_pos c2, if_pos c2, c2]
         have := bases_l0 l hok (histI l a).1 (histI l b).1 q3 q2 p2 q5 (histI l a).1.length 0 [] zq6 rfl k zq6
         unfold spec_l9Bases.f
         rw [show spec_l9Bases.l0 k l (histI l a).1 (histI l b).1 [] 0 = _ from this, Option.bind_some]
         rfl
       · rw [if_neg c2, if_neg c2]
     · rw [if_neg c1, if_neg c1, Option.bind_some, if_neg c1, if_neg c1]
 · refine ⟨(storeV l, []), Nat.zero_le _, fun k hk => ⟨?_, ?_⟩⟩
   · unfold impl_BasesOf.f
     rw [impl_store l hs k zq6, Option.bind_some, if_neg h]
   · unfold spec_BasesOf.f
     rw [spec_store l hs k zq6, Option.bind_some, if_neg h]
theorem eqLinesResult_same (c : Int) (l : List ByteArray) (hl : l.length ≤ 1048576) (k : Nat) (hk : l.length < k) : laws_eqLinesResult.f k c l c l = some true := by
 unfold laws_eqLinesResult.f
 rw [if_pos rfl, eqStringS_same l hl k hk, Option.bind_some, if_pos rfl]
theorem basesOf_pure (l : List LObj) (a b : ByteArray) (hl1 : l.length * 40 ≤ 140737488351232) (hl2 : ∀ x ∈ l, x.f0.size ≤ 140737488351232 ∧ (Go.Lit.int .i64 x.f1).wf = true ∧ x.f2.size ≤ 140737488351232) (ha : a.size ≤ 140737488351232) (hb : b.size ≤ 140737488351232) : ∃ k, laws_FnExactBasesOf.f k l a b = some true := by
 obtain ⟨K, hK⟩ : ∃ K, K = l.length + 9030400 := ⟨_, rfl⟩
 refine ⟨K + 1, ?_⟩
 unfold laws_FnExactBasesOf.f
 by_cases ca : (a.size : Int) > 1048576
 · rw [if_pos ca]
 rw [if_neg ca]
 by_cases cd : (b.size : Int) > 1048576
 · rw [if_pos cd]
 rw [if_neg cd]
 obtain ⟨r, hr, hle, hq⟩ := szObjectS_tells l zq6 (fun x hx => ⟨(hl2 x hx).1, (hl2 x hx).2.2⟩) 1048576 zq10 zq10 (K + 1) zq6
 rw [hr, Option.bind_some]
 by_cases c : r < 0
 · rw [if_pos c]
 obtain ⟨hn, hs⟩ := hq zq6
 have hm : (l.map objConv).length = l.length := List.length_map _
 obtain ⟨v, hv, hV⟩ := bases_same (l.map objConv) (oconvs hs) a b zq6 zq6
 have e1 := toObjectS_tells l hn (K + 1) zq6
 have e2 := (hV (K + 1) zq6).2
 have e3 := (hV (K + 1) zq6).1
 have e1' := toObjectS_tells l hn K zq6
 have e3' := (hV K zq6).1
 have e4 := eqObjectS_same (l.map objConv) zq6 (K + 1) zq6
 have e5 := markObjectS_tells (l.map objConv) 1 zq6 (K + 1) zq6
 clear hV
 obtain ⟨vc, vl⟩ := v
 have e6 := eqLinesResult_same vc vl (by simp only at hv; omega) (K + 1) (by simp only at hv; omega)
 have e6' := eqLinesResult_same vc vl (by simp only at hv; omega) K (by simp only at hv; omega)
 have m1 := markStringS_tells vl 1 (by simp only at hv; omega) K (by simp only at hv; omega)
 have m2 := heldStringS_tells vl.length 1 (by simp only at hv; omega) K (by simp only at hv; omega)
 rw [if_neg c]
 simp only [e1, e2, e3, e4, e6, Option.bind_some, if_true]
 rw [show laws_markObjectS.f (K + 1) (l.map objConv) 1 = _ from e5, Option.bind_some, if_neg zq6]
 rw [laws_FnExactBasesOf.j0, if_neg zq10]
 unfold laws_markLinesResult.f laws_heldLinesResult.f
 rw [show laws_markStringS.f K vl 1 = _ from m1]
 simp only [Option.bind_some]
 rw [show laws_heldStringS.f K (strMarks 1 vl.length) 1 = _ from m2]
 simp only [Option.bind_some]
 rw [if_neg zq6]
 simp only [Option.bind_some]
 rw [if_neg zq6]
 simp only [e1', e3', e6', Option.bind_some, if_true]
 rw [if_neg zq6]
end Go.Proofs.YtpnoghcdfbmpoaaGreatDoorX
