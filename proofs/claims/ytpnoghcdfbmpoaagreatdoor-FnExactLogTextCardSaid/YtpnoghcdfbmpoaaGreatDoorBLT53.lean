/- Texts of this claim set one behind another by wip/bundle.py: XLogO, XLogS, XLogT, XLogV, XLogE, PXf24, PXf25, PXf7, XLawLogText. -/
import Derived.Test.YtpnoghcdfbmpoaaGreatDoorBLT44
import Derived.Test.YtpnoghcdfbmpoaaGreatDoorBLT41
import Derived.Test.YtpnoghcdfbmpoaaGreatDoorBLT52
import Derived.Test.YtpnoghcdfbmpoaaGreatDoorBLT34
import Derived.Test.YtpnoghcdfbmpoaaGreatDoorBLT40
import Derived.Test.YtpnoghcdfbmpoaaGreatDoorBLT36
import Derived.Test.YtpnoghcdfbmpoaaGreatDoorBLT8
import Derived.Deep.RegionHeld3
import Derived.Shelf.Strings.BuilderK
import Derived.Shelf.Strings.MapGrows
import Derived.IntWalk
import Derived.Test.YtpnoghcdfbmpoaaGreatDoorBLT32
import Derived.Test.YtpnoghcdfbmpoaaGreatDoorBLT16
import Derived.Test.YtpnoghcdfbmpoaaGreatDoorBLT15
import Derived.Test.YtpnoghcdfbmpoaaGreatDoorBLT23
import Derived.Test.YtpnoghcdfbmpoaaGreatDoorBLT21
import Derived.Test.YtpnoghcdfbmpoaaGreatDoorBLT9
namespace Go.Proofs.YtpnoghcdfbmpoaaGreatDoor.PX.X
open Go Go.RowKit Go.Lib Go.Proofs.YtpnoghcdfbmpoaaGreatDoorW.PrintWords Go.Proofs.YtpnoghcdfbmpoaaGreatDoor.PX
set_option linter.unusedVariables false
set_option linter.unusedSimpArgs false
set_option maxHeartbeats 4000000 in
set_option maxRecDepth 100000 in
theorem log_store (k : Nat) (A0 : Option Addr) (c0 : Nat) (l0 : List S50) (id : ByteArray) (st : Int) (w : World) (hr0 : Kd.C k50 w A0 l0.length l0) (hc0 : l0.length ≤ c0) (hG : Gt w) (hst : impl_StoreFault.f k l0 = some st) (hz : ¬ st = 0) :
 Calls Tryz.prog 25 #[.slice A0 l0.length c0, .string id] w fun e w' => e = .returned (.agg #[.int .i64 st, .string ⟨#[]⟩]) ∧ Below w.heap.size w w' := by
 have HST := Lib.hid (fun (W : World) (hw : Below w.heap.size w W) => impl_StoreFault.calls k A0 c0 l0 st W (Kd.C_below hr0 hw) hc0 (hG.below hw) hst)
 have z1 : (st == 0) = false := beq_eq_false_iff_ne.mpr hz
 have z2 : (st != 0) = true := bne_iff_ne.mpr hz
 clear hr0 hc0 hG hst hz
 go_enter Tryz.func25, Tryz.ntmps25
 go_wp2_with (first
  | ((with_reducible refine gate_dst (N := 4) rfl ?_); refine box_event ?hg (N := 4) ?hd (cs := #[.int .i64 0, .string (⟨#[]⟩ : ByteArray)]) (t := 43) ?hr ?_; (case hd => rfl); (case hg => rfl); (case hr => first | (go_simp; done) | (go_simp; rfl)); intro gr hgr w1 hbox hb1; have HRB := Lib.hid hbox; have HB1 := Lib.hid hb1; have HGR := Lib.hid hgr; clear hbox hb1 hgr)
  | (go_at_call 31; (with_reducible refine (HST.out w1 HB1.out).mono ?_); rintro e w2 ⟨rfl, hb2⟩; have hrr := blk_below HRB.out hb2; have z3 : w2.cell? ⟨gr, 0, none⟩ = some (.int .i64 0) := (blk_cell hrr 0).trans rfl; have z4 : w2.cell? ⟨gr, 1, none⟩ = some (.string ⟨#[]⟩) := (blk_cell hrr 1).trans rfl; have f0 := blk_frozen hrr 0; have f1 := blk_frozen hrr 1; have R9 := Lib.hid hrr; have HB2 := Lib.hid hb2; clear hb2 hrr))
 have hgr : w.heap.size ≤ gr := Nat.le_of_eq HGR.out.symm
 refine bodyPost_ret (results_cell_row rfl _ _ gr 43 #[.int .i64 st, .string ⟨#[]⟩] (0, 0) _ rfl (blk_set (blk_set R9.out 0 (.int .i64 st)) 1 (.string ⟨#[]⟩)) Tryz.underlying43 rfl zq6) rfl ?_
 exact ⟨rfl, below_set (below_set (HB1.out.trans (HB2.out.mono HB1.out.size)) hgr) hgr⟩
set_option maxHeartbeats 4000000 in
set_option maxRecDepth 100000 in
theorem log_hist (k : Nat) (A0 : Option Addr) (c0 : Nat) (l0 : List S50) (id : ByteArray) (X : List ByteArray) (c : Int) (w : World) (hr0 : Kd.C k50 w A0 l0.length l0) (hc0 : l0.length ≤ c0) (hG : Gt w) (hst : impl_StoreFault.f k l0 = some 0) (hx : impl_historyOf.f k l0 id = some (X, c)) (hz : ¬ c = 0) :
 Calls Tryz.prog 25 #[.slice A0 l0.length c0, .string id] w fun e w' => e = .returned (.agg #[.int .i64 c, .string ⟨#[]⟩]) ∧ Below w.heap.size w w' := by
 have HST := Lib.hid (fun (W : World) (hw : Below w.heap.size w W) => impl_StoreFault.calls k A0 c0 l0 0 W (Kd.C_below hr0 hw) hc0 (hG.below hw) hst)
 have HX := Lib.hid (fun (W : World) (hw : Below w.heap.size w W) => impl_historyOf.calls k A0 c0 l0 id X c W (Kd.C_below hr0 hw) hc0 (hG.below hw) hx)
 have z1 : (c == 0) = false := beq_eq_false_iff_ne.mpr hz
 have z2 : (c != 0) = true := bne_iff_ne.mpr hz
 clear hr0 hc0 hG hst hz hx
 go_enter Tryz.func25, Tryz.ntmps25
 go_wp2_with (first
  | ((with_reducible refine gate_dst (N := 4) rfl ?_); refine box_event ?hg (N := 4) ?hd (cs := #[.int .i64 0, .string (⟨#[]⟩ : ByteArray)]) (t := 43) ?hr ?_; (case hd => rfl); (case hg => rfl); (case hr => first | (go_simp; done) | (go_simp; rfl)); intro gr hgr w1 hbox hb1; have HRB := Lib.hid hbox; have HB1 := Lib.hid hb1; have HGR := Lib.hid hgr; clear hbox hb1 hgr)
  | (go_at_call 31; (with_reducible refine (HST.out w1 HB1.out).mono ?_); rintro e w2 ⟨rfl, hb2⟩; have HB2 := Lib.hid hb2; have B2 := Lib.hid (HB1.out.trans (hb2.mono HB1.out.size)); clear hb2)
  | (go_at_call 35; (with_reducible refine (HX.out w2 B2.out).mono ?_); rintro e w3 ⟨v3, rfl, hoo_, hbb_⟩; obtain ⟨A3, c3, rfl⟩ := Kd.R_slice hoo_; have hrr := blk_below (blk_below HRB.out HB2.out) hbb_; have z3 : w3.cell? ⟨gr, 0, none⟩ = some (.int .i64 0) := (blk_cell hrr 0).trans rfl; have z4 : w3.cell? ⟨gr, 1, none⟩ = some (.string ⟨#[]⟩) := (blk_cell hrr 1).trans rfl; have f0 := blk_frozen hrr 0; have f1 := blk_frozen hrr 1; have R9 := Lib.hid hrr; have B3 := Lib.hid (B2.out.trans (hbb_.mono B2.out.size)); clear hoo_ hbb_ hrr))
 have hgr : w.heap.size ≤ gr := Nat.le_of_eq HGR.out.symm
 refine bodyPost_ret (results_cell_row rfl _ _ gr 43 #[.int .i64 c, .string ⟨#[]⟩] (0, 0) _ rfl (blk_set (blk_set R9.out 0 (.int .i64 c)) 1 (.string ⟨#[]⟩)) Tryz.underlying43 rfl zq6) rfl ?_
 exact ⟨rfl, below_set (below_set B3.out hgr) hgr⟩
open Go.Proofs in
theorem writeStringL (B b : Nat) (bs : List Value) (s : ByteArray) (w : World) (h : Lib.IsBuilderF 79 5 B b bs w) (hlen : bs.length + s.size ≤ 140737488355328) (hBw : B ≤ w.heap.size) :
 Calls Tryz.prog 53 #[.pointer (some ⟨b, 0, none⟩), .string s] w fun e w' => e = .returned (.tuple #[.int .i64 s.size, .nilIface]) ∧ (Lib.BuilderAtF 79 5 B b (.pointer (some ⟨b, 0, none⟩)) (bs ++ Lib.strCells s) w' ∧ Below B w w' ∧ Lib.OthersKept 5 (some b) w w') :=
 Any.Builder_WriteString_k Tryz.lays166 Tryz.Builder_Extra_166 B b bs s w h hlen hBw
open Go.Proofs in
theorem stringOfL (B b : Nat) (l : List UInt8) (w : World) (h : Lib.IsBuilderF 79 5 B b (Lib.byteCells l) w) (hBw : B ≤ w.heap.size) :
 Calls Tryz.prog 55 #[.pointer (some ⟨b, 0, none⟩)] w fun e w' => e = .returned (.string ⟨l.toArray⟩) ∧ Below B w w' :=
 (Any.Builder_String_any_k Tryz.lays169 Tryz.Builder_Extra_169 B b l w h hBw).mono fun e w' h => ⟨h.1, h.2.2.1⟩
def stI (n : Int) : ByteArray := ⟨(Lib.itoa n).toArray⟩
def lineM (M : CoL) (x : ByteArray) : ByteArray := ((((x ++ (⟨#[32]⟩ : ByteArray)) ++ stI (coV M x).1) ++ (⟨#[32]⟩ : ByteArray)) ++ (coV M x).2) ++ (⟨#[10]⟩ : ByteArray)
def logM (M : CoL) (l : List ByteArray) : List UInt8 := l.flatMap fun x => (lineM M x).data.toList
theorem logM_step (M : CoL) (l : List ByteArray) (i : Nat) (hi : i < l.length) : logM M (l.take (i + 1)) = logM M (l.take i) ++ (lineM M (l.getD i ByteArray.empty)).data.toList := by
 rw [List.take_succ_eq_append_getElem hi, List.getD_eq_getElem?_getD, List.getElem?_eq_getElem hi, Option.getD_some]
 unfold logM
 rw [List.flatMap_append]
 simp
theorem logM_le (M : CoL) (l : List ByteArray) (i : Nat) : (logM M (l.take i)).length ≤ (logM M l).length := by
 have h1 : logM M l = logM M (l.take i) ++ logM M (l.drop i) := by
  unfold logM
  rw [← List.flatMap_append, List.take_append_drop]
 rw [h1, List.length_append]
 omega
def coOf (cm : ByteArray → CmR) (X : List ByteArray) : CoL := (X.map fun x => (x, (cm x).2.2.1, (cm x).2.2.2.1)).reverse
theorem coOf_step (cm : ByteArray → CmR) (X : List ByteArray) (x : ByteArray) : coOf cm (X ++ [x]) = (x, (cm x).2.2.1, (cm x).2.2.2.1) :: coOf cm X := by
 unfold coOf
 rw [List.map_append, List.reverse_append]
 rfl
theorem coOf_len (cm : ByteArray → CmR) (X : List ByteArray) : (coOf cm X).length = X.length := by
 unfold coOf
 rw [List.length_reverse, List.length_map]
set_option maxHeartbeats 4000000 in
set_option maxRecDepth 100000 in
theorem log_main (k : Nat) (A0 : Option Addr) (c0 : Nat) (l0 : List S50) (id : ByteArray) (X : List ByteArray) (cm : ByteArray → CmR) (w : World) (hr0 : Kd.C k50 w A0 l0.length l0) (hc0 : l0.length ≤ c0) (hG : Gt w) (hst : impl_StoreFault.f k l0 = some 0) (hx : impl_historyOf.f k l0 id = some (X, 0)) (hX : X.length ≤ 1048576) (hsz : ∀ x ∈ X, x.size ≤ 9223372036854775807)
 (hcm : ∀ x, impl_commitOf.f k l0 x = some (cm x)) (htm : ∀ z, 0 ≤ (coV (coOf cm X) z).1 ∧ (coV (coOf cm X) z).1 ≤ 1000000000) (Y : List ByteArray) (hY : (X.mergeSort fun x y => !bef (fun z => (coV (coOf cm X) z).1) y x) = Y) (hfit : (logM (coOf cm X) Y).length ≤ 140737488355328) :
 Calls Tryz.prog 25 #[.slice A0 l0.length c0, .string id] w fun e w' => e = .returned (.agg #[.int .i64 0, .string ⟨(logM (coOf cm X) Y).toArray⟩]) ∧ Below w.heap.size w w' := by
 have HG := Lib.hid hG
 have HTM := Lib.hid htm
 have HFIT := Lib.hid hfit
 have HYY := Lib.hid hY
 have hyl : X.length ≤ Y.length ∧ Y.length ≤ X.length := by rw [← hY, List.length_mergeSort]; exact ⟨Nat.le_refl _, Nat.le_refl _⟩
 have HYL := Lib.hid hyl
 clear htm hfit hY hyl
 have HST := Lib.hid (fun (W : World) (hw : Below w.heap.size w W) => impl_StoreFault.calls k A0 c0 l0 0 W (Kd.C_below hr0 hw) hc0 (hG.below hw) hst)
 have HX := Lib.hid (fun (W : World) (hw : Below w.heap.size w W) => impl_historyOf.calls k A0 c0 l0 id X 0 W (Kd.C_below hr0 hw) hc0 (hG.below hw) hx)
 have HCM := Lib.hid (fun x (W : World) (hw : Below w.heap.size w W) => impl_commitOf.calls k A0 c0 l0 x (cm x).1 (cm x).2.1 (cm x).2.2.1 (cm x).2.2.2.1 (cm x).2.2.2.2 W (Kd.C_below hr0 hw) hc0 (hG.below hw) (hcm x))
 have HSZ := Lib.hid hsz
 clear hr0 hc0 hG hst hx hcm hsz
 have hmm := @run_makeMap Tryz.prog
 go_enter Tryz.func25, Tryz.ntmps25
 go_wp2_with (first
  | ((with_reducible refine gate_dst (N := 4) rfl ?_); refine box_event ?hg (N := 4) ?hd (cs := #[.int .i64 0, .string (⟨#[]⟩ : ByteArray)]) (t := 43) ?hr ?_; (case hd => rfl); (case hg => rfl); (case hr => first | (go_simp; done) | (go_simp; rfl)); intro gr hgr w1 hbox hb1; have HRB := Lib.hid hbox; have HB1 := Lib.hid hb1; have HGR := Lib.hid hgr; clear hbox hb1 hgr)
  | (go_at_call 31; (with_reducible refine (HST.out w1 HB1.out).mono ?_); rintro e w2 ⟨rfl, hb2⟩; have HB2 := Lib.hid hb2; have B2 := Lib.hid (HB1.out.trans (hb2.mono HB1.out.size)); clear hb2)
  | (go_at_call 35; (with_reducible refine (HX.out w2 B2.out).mono ?_); rintro e w3 ⟨v3, rfl, hoo_, hbb_⟩; obtain ⟨A3, c3, rfl⟩ := Kd.R_slice hoo_; have O3 := Lib.hid hoo_; have B13 := Lib.hid (HB2.out.trans (hbb_.mono HB2.out.size)); clear hoo_ hbb_))
 clear HST HX B2
 have m4 := co_below (co_new w3) (below_alloc (Below.refl _ _) (.cells #[.map (some w3.heap.size)] 73))
 have g4 : ((w3.alloc (.map #[] 0)).alloc (.cells #[.map (some w3.heap.size)] 73)).heap[w3.heap.size + 1]? = some (.cells #[.map (some w3.heap.size)] 73 (0, 0)) := by
  have := blk_new (w3.alloc (.map #[] 0)) (.cells #[.map (some w3.heap.size)] 73)
  rwa [show (w3.alloc (.map #[] 0)).heap.size = w3.heap.size + 1 from by simp] at this
 have b34 : Below w3.heap.size w3 ((w3.alloc (.map #[] 0)).alloc (.cells #[.map (some w3.heap.size)] 73)) := below_alloc (below_alloc (Below.refl _ _) _) _
 generalize hW4 : (w3.alloc (.map #[] 0)).alloc (.cells #[.map (some w3.heap.size)] 73) = w4 at m4 g4 b34 ⊢
 clear hW4
 have M4 := Lib.hid m4
 have G4 := Lib.hid g4
 have B34 := Lib.hid b34
 have B3 := Lib.hid (HB1.out.trans (B13.out.mono HB1.out.size))
 clear m4 g4 b34 hmm
 go_loopg [33] X.length (fun gg s33 wr => ∃ i : Nat, s33 = .int .i64 i ∧ i ≤ X.length ∧ X.length - i ≤ gg ∧ Aside (CoMap wr w3.heap.size (coOf cm (X.take i))) ∧ Aside (wr.heap[w3.heap.size + 1]? = some (.cells #[.map (some w3.heap.size)] 73 (0, 0))) ∧ Aside (Below w3.heap.size w3 wr))
 case atStart => exact ⟨0, rfl, Nat.zero_le _, by omega, M4.out, G4.out, B34.out⟩
 case round =>
  clear M4 G4 B34
  rename World => wq
  obtain ⟨i, rfl, hi, hgg, MQ, GQ, BQ⟩ := hrel
  have B0 := Lib.hid (B3.out.trans (BQ.out.mono B3.out.size))
  by_cases hlt : i < X.length
  · have hiz : (0 : Int) ≤ (i : Int) := Int.natCast_nonneg i
    have hil : (i : Int) < (X.length : Int) := by omega
    obtain ⟨ad, hA, q0⟩ := Kd.at_string (Kd.R_reads' (Kd.R_below O3.out BQ.out)).2.2 (i : Int) hiz hil
    subst hA
    rw [rdS, Int.toNat_natCast] at q0
    have hmem : X.getD i ByteArray.empty ∈ X := by
     rw [List.getD_eq_getElem?_getD, List.getElem?_eq_getElem hlt, Option.getD_some]
     exact List.getElem_mem hlt
    have htk : X.take (i + 1) = X.take i ++ [X.getD i ByteArray.empty] := by
     rw [List.take_succ_eq_append_getElem hlt, List.getD_eq_getElem?_getD, List.getElem?_eq_getElem hlt, Option.getD_some]
    have hst := coOf_step cm (X.take i) (X.getD i ByteArray.empty)
    rw [← htk] at hst
    have hxs := HSZ.out _ hmem
    have hln : (coOf cm (X.take i)).length ≤ 1048576 := by rw [coOf_len, List.length_take]; omega
    generalize X.getD i ByteArray.empty = x at q0 hst hxs
    have HCX := Lib.hid (fun (W : World) (hw : Below wq.heap.size wq W) => HCM.out x W (B0.out.trans (hw.mono B0.out.size)))
    have HSTEP := Lib.hid hst
    have HXS := Lib.hid hxs
    clear hmem htk hst hxs
    generalize cm x = y at HCX HSTEP
    obtain ⟨y1, ps, y3, y4, y5⟩ := y
    simp only at HCX HSTEP
    have hgq : wq.cell? ⟨w3.heap.size + 1, 0, none⟩ = some (.map (some w3.heap.size)) := (blk_cell GQ.out 0).trans rfl
    go_wp2
    go_region_held3 (fun w' => w'.cell? ⟨w3.heap.size + 1, 0, none⟩ = some (.map (some w3.heap.size))) ((first | exact hgq | exact hgq5 | exact hgq6))
     ((first | (go_at_call 42; (with_reducible refine (HCX.out _ (below_drew1 (Below.refl _ _))).mono ?_); rintro e w5 ⟨v5, rfl, hoo_, hbb_⟩; obtain ⟨A5, c5, rfl⟩ := Kd.R_slice hoo_; have b5 := (below_drew1 (Below.refl wq.heap.size wq)).trans hbb_; have hgq5 := kc2 hgq b5; obtain ⟨w6, hrun6, hk6, hg6⟩ := co_store (co_below MQ.out b5) (by unfold maxLen; omega) x (by have := HXS.out; unfold maxLen; omega) y1 A5 ps.length c5 y3 y4; have hgq6 := hg6.cell hgq5 (fun z => absurd (Option.some.inj z) (Nat.succ_ne_self _)))))
    go_wp2
    go_roundg (X.length - (i + 1))
    case measure => omega
    case rel =>
     exact ⟨i + 1, by go_num, by omega, by omega, (show Aside _ from by rw [HSTEP.out]; exact hk6), (show Aside _ from (hg6.block _ (Nat.lt_of_lt_of_le (Array.getElem?_eq_some_iff.1 GQ.out).1 b5.size) (fun z => absurd (Option.some.inj z) (Nat.succ_ne_self _))).trans ((b5.block _ (Array.getElem?_eq_some_iff.1 GQ.out).1).trans GQ.out)), (show Aside _ from (BQ.out.trans (b5.mono BQ.out.size)).grown hg6 (Nat.le_trans BQ.out.size b5.size) (fun k_ hk_ => Nat.le_of_eq (Option.some.inj hk_)))⟩
  · have hil : ¬ (i : Int) < (X.length : Int) := by omega
    have hxt : X.take i = X := List.take_of_length_le zq7
    have mq := MQ.out
    rw [hxt] at mq
    have MX := Lib.hid mq
    clear hxt mq MQ
    have HSO := Lib.hid (sort_fn (fun z => (coV (coOf cm X) z).1) 51 #[.pointer (some ⟨w3.heap.size + 1, 0, none⟩)] l1_eg wq w2.heap.size (.slice A3 X.length c3) X (Kd.R_below O3.out BQ.out) zq7 HSZ.out (fun W g x y hg hW hs hx hy => by
     have hgl := Kd.R_lt O3.out g hg
     exact litL (coOf cm X) (w3.heap.size + 1) w3.heap.size x y W ((blk_cell ((hW (w3.heap.size + 1) (Array.getElem?_eq_some_iff.1 GQ.out).1 zq7).trans GQ.out) 0).trans rfl) (co_block MX.out (hW w3.heap.size (co_lt MX.out) zq7)) hx hy (fun z => ⟨(HTM.out z).1, Int.le_trans (HTM.out z).2 zq9⟩)))
    go_wp2_with (first
     | (go_at_call 50; (with_reducible refine HSO.out.mono ?_); rintro e w7 ⟨rfl, ho7, hb7, hk7, hs7⟩; rw [HYY.out] at ho7; have O7 := Lib.hid ho7; have hgl := fun g hg => Kd.R_lt O3.out g hg; have B17 := Lib.hid (hb7 w1 w1.heap.size (B13.out.trans (BQ.out.mono B13.out.size)) HB2.out.size); have G7 := Lib.hid ((hk7 (w3.heap.size + 1) (Array.getElem?_eq_some_iff.1 GQ.out).1 (fun z => absurd (hgl _ z) zq7)).trans GQ.out); have M7 := Lib.hid (co_block MX.out (hk7 w3.heap.size (co_lt MX.out) (fun z => absurd (hgl _ z) zq7))); clear ho7 hb7 hk7 hs7 hgl)
     | ((with_reducible refine gate_dst (N := 11) rfl ?_); refine box_event ?hg (N := 11) ?hd (cs := #[.pointer none, .slice none 0 0]) (t := 79) ?hr ?_; (case hd => rfl); (case hg => rfl); (case hr => first | (go_simp; done) | (go_simp; rfl)); intro gb hgb w8 hbox hb8; have hcz0 : w8.cell? ⟨gb, 0, none⟩ = some (.pointer none) := (blk_cell hbox 0).trans rfl; have hcz1 : w8.cell? ⟨gb, 1, none⟩ = some (.slice none 0 0) := (blk_cell hbox 1).trans rfl; have hfz0 := blk_frozen hbox 0; have hfz1 := blk_frozen hbox 1; have HBX := Lib.hid hbox; have HB8 := Lib.hid hb8; have HGB := Lib.hid hgb; clear hbox hb8 hgb))
    have hB0 : w7.heap.size ≤ gb := Nat.le_of_eq HGB.out.symm
    have hI0 : Lib.IsBuilderF 79 5 w7.heap.size gb (Lib.byteCells (logM (coOf cm X) (Y.take 0))) ((w8.setCell ⟨gb, 0, none⟩ (.pointer none)).setCell ⟨gb, 1, none⟩ (.slice none 0 0)) := by
     refine Lib.IsBuilderF.of (.inl ⟨hB0, .slice none 0 0, ?_, World.ownsRow_nil _ _ _ _, by simp [Value.ownBlock]⟩)
     exact blk_set (blk_set HBX.out 0 (.pointer none)) 1 (.slice none 0 0)
    have hW0 : Below w7.heap.size w7 ((w8.setCell ⟨gb, 0, none⟩ (.pointer none)).setCell ⟨gb, 1, none⟩ (.slice none 0 0)) := below_set (below_set HB8.out hB0) hB0
    generalize ((w8.setCell ⟨gb, 0, none⟩ (.pointer none)).setCell ⟨gb, 1, none⟩ (.slice none 0 0)) = W0 at hI0 hW0 ⊢
    have II0 := Lib.hid hI0
    have IW0 := Lib.hid hW0
    have CY := Lib.hid (Kd.R_reads' O7.out).2.2
    have B07 := Lib.hid (HB1.out.trans (B17.out.mono HB1.out.size))
    clear hcz0 hcz1 hfz0 hfz1 HBX HB8 HSO MX GQ BQ B0 hI0 hW0 hB0 HGB hil HCM O7
    go_loopg [52] X.length (fun gg s52 wr => ∃ j : Nat, s52 = .int .i64 j ∧ j ≤ X.length ∧ X.length - j ≤ gg ∧ Aside (Below w7.heap.size w7 wr) ∧ Aside (Lib.IsBuilderF 79 5 w7.heap.size gb (Lib.byteCells (logM (coOf cm X) (Y.take j))) wr))
    case atStart => exact ⟨0, rfl, Nat.zero_le _, by omega, IW0.out, II0.out⟩
    case round =>
     clear II0 IW0
     rename World => wr
     obtain ⟨j, rfl, hj, hgg2, BR, AI⟩ := hrel
     by_cases hlt2 : j < X.length
     · have hjz : (0 : Int) ≤ (j : Int) := Int.natCast_nonneg j
       have hjl : (j : Int) < (X.length : Int) := by omega
       have hjY : j < Y.length := by have := HYL.out.1; omega
       obtain ⟨ad, hA, q0⟩ := Kd.at_string (Kd.C_below CY.out BR.out) (j : Int) hjz zq7
       subst hA
       rw [rdS, Int.toNat_natCast] at q0
       have hstp := logM_step (coOf cm X) Y j hjY
       have hle1 := logM_le (coOf cm X) Y (j + 1)
       have hmem : Y.getD j ByteArray.empty ∈ X := by
        have : Y.getD j ByteArray.empty ∈ Y := by
         rw [List.getD_eq_getElem?_getD, List.getElem?_eq_getElem hjY, Option.getD_some]
         exact List.getElem_mem hjY
        have hp := List.mergeSort_perm X (fun x y => !bef (fun z => (coV (coOf cm X) z).1) y x)
        rw [HYY.out] at hp
        exact hp.mem_iff.1 this
       have hxs := HSZ.out _ hmem
       generalize Y.getD j ByteArray.empty = x at q0 hstp hxs
       obtain ⟨a9, A9, l9, c9, hlk⟩ := co_look_all M7.out x (by unfold maxLen; omega)
       have htx := HTM.out x
       have hline : lineM (coOf cm X) x = ((((x ++ (⟨#[32]⟩ : ByteArray)) ++ stI (coV (coOf cm X) x).1) ++ (⟨#[32]⟩ : ByteArray)) ++ (coV (coOf cm X) x).2) ++ (⟨#[10]⟩ : ByteArray) := rfl
       have hdec : impl_decimal.f (coV (coOf cm X) x).1 = some (stI (coV (coOf cm X) x).1) := by
        unfold impl_decimal.f strconv_FormatInt_77.f
        rw [if_pos rfl, if_pos zq7, if_pos zq7]
        rfl
       rw [hline] at hstp
       generalize stI (coV (coOf cm X) x).1 = ts at hstp hdec
       generalize (coV (coOf cm X) x).1 = t9 at hlk hdec
       generalize (coV (coOf cm X) x).2 = n9 at hlk hstp
       have hf1 := field_time a9 A9 l9 c9 t9 n9
       have hf2 := field_note a9 A9 l9 c9 t9 n9
       have hsum : (logM (coOf cm X) (Y.take (j + 1))).length = (logM (coOf cm X) (Y.take j)).length + (x.size + 1 + ts.size + 1 + n9.size + 1) := by
        rw [hstp, List.length_append]
        congr 1
        rw [Array.length_toList]
        show ByteArray.size _ = _
        simp only [ByteArray.size_append]
        rfl
       have hfit := HFIT.out
       have hs1 : (Lib.byteCells (logM (coOf cm X) (Y.take j))).length + (((((x ++ (⟨#[32]⟩ : ByteArray)) ++ ts) ++ (⟨#[32]⟩ : ByteArray)) ++ n9) ++ (⟨#[10]⟩ : ByteArray)).size ≤ 140737488355328 := by
        unfold Lib.byteCells
        rw [List.length_map]
        simp only [ByteArray.size_append]
        have z1 : (⟨#[32]⟩ : ByteArray).size = 1 := rfl
        have z2 : (⟨#[10]⟩ : ByteArray).size = 1 := rfl
        omega
       have f1 : (9223372036854775807 < x.size + 1) = False := eq_false zq7
       have f2 : (9223372036854775807 < x.size + 1 + ts.size) = False := eq_false zq7
       have f3 : (9223372036854775807 < x.size + 1 + ts.size + 1) = False := eq_false zq7
       have f4 : (9223372036854775807 < x.size + 1 + ts.size + 1 + n9.size) = False := eq_false zq7
       have f5 : (9223372036854775807 < x.size + 1 + ts.size + 1 + n9.size + 1) = False := eq_false zq7
       have RS1 := Lib.hid hs1
       have HSTP := Lib.hid hstp
       have RDEC := Lib.hid hdec
       have RG := Lib.hid (show Gt wr from HG.out.below (B07.out.trans (BR.out.mono B07.out.size)))
       have HLK := Lib.hid hlk
       clear hstp hle1 hmem hxs hline hdec hlk htx hsum hfit hs1
       have hgw : ∀ W, Below w7.heap.size w7 W → W.cell? ⟨w3.heap.size + 1, 0, none⟩ = some (.map (some w3.heap.size)) ∧ (Instr.lookup 73 (.map (some w3.heap.size)) (.string x) false).run Tryz.prog W = .ok (.agg #[.string a9, .slice A9 l9 c9, .int .i64 t9, .string n9]) W := fun W hW => ⟨(blk_cell (blk_below G7.out hW) 0).trans rfl, HLK.out W (hW.block _ (co_lt M7.out))⟩
       have HGW := Lib.hid hgw
       clear hgw
       have hBD : Below wr.heap.size wr wr.drew := below_drew1 (Below.refl _ _)
       have hK0 := HGW.out wr.drew (below_drew1 BR.out)
       go_wp2
       go_region_held3 (fun w' => w'.cell? ⟨w3.heap.size + 1, 0, none⟩ = some (.map (some w3.heap.size)) ∧ (Instr.lookup 73 (.map (some w3.heap.size)) (.string x) false).run Tryz.prog w' = .ok (.agg #[.string a9, .slice A9 l9 c9, .int .i64 t9, .string n9]) w') ((first | exact hK0 | exact hK1 | exact hK2))
        ((first
          | (go_at_call 54; refine (impl_decimal.calls t9 _ _ (RG.out.below hBD) RDEC.out).mono ?_; rintro e w10 ⟨rfl, hb⟩; replace hBD := below_step hBD hb; have hK1 := HGW.out w10 (BR.out.trans (hBD.mono BR.out.size)))
          | (go_at_call 53; refine (writeStringL w7.heap.size gb _ _ _ (Lib.IsBuilderF.below AI.out hBD) RS1.out (Nat.le_trans BR.out.size hBD.size)).mono ?_; rintro e w11 ⟨rfl, hI, hbw, hok⟩; have hK2 := HGW.out w11 ((BR.out.trans (hBD.mono BR.out.size)).trans hbw))))
       all_goals (
        have hI5 : Lib.IsBuilderF 79 5 w7.heap.size gb (Lib.byteCells (logM (coOf cm X) (Y.take (j + 1)))) w11 := by
         rw [HSTP.out, show Lib.byteCells (logM (coOf cm X) (Y.take j) ++ (((((x ++ (⟨#[32]⟩ : ByteArray)) ++ ts) ++ (⟨#[32]⟩ : ByteArray)) ++ n9) ++ (⟨#[10]⟩ : ByteArray)).data.toList) = Lib.byteCells (logM (coOf cm X) (Y.take j)) ++ Lib.strCells (((((x ++ (⟨#[32]⟩ : ByteArray)) ++ ts) ++ (⟨#[32]⟩ : ByteArray)) ++ n9) ++ (⟨#[10]⟩ : ByteArray)) from by rw [Lib.strCells_eq]; exact List.map_append]
         exact .inr hI
        have hB5 : Below w7.heap.size w7 w11 := (BR.out.trans (hBD.mono BR.out.size)).trans hbw
        have HI5 := Lib.hid hI5
        have HB5 := Lib.hid hB5
        clear hI hbw hok hb hBD hK0 hK1 hK2 f1 f2 f3 f4 f5 hI5 hB5
        go_wp2
        go_roundg (X.length - (j + 1))
        case measure => omega
        case rel => exact ⟨j + 1, by go_num, by omega, by omega, HB5.out, HI5.out⟩)
     · have hjl : ¬ (j : Int) < (X.length : Int) := by omega
       have hyt : Y.take j = Y := List.take_of_length_le (by have := HYL.out.2; omega)
       have hI := AI.out
       rw [hyt] at hI
       have HCA := Lib.hid (stringOfL w7.heap.size gb (logM (coOf cm X) Y) wr hI BR.out.size)
       clear hI AI hyt
       go_wp2_with (go_at_call 55; refine HCA.out.mono ?_; rintro e w12 ⟨rfl, hb4⟩; have b12 := BR.out.trans hb4; have hrr := blk_below (blk_below HRB.out B17.out) b12; have z3 : w12.cell? ⟨gr, 0, none⟩ = some (.int .i64 0) := (blk_cell hrr 0).trans rfl; have z4 : w12.cell? ⟨gr, 1, none⟩ = some (.string ⟨#[]⟩) := (blk_cell hrr 1).trans rfl; have fa := blk_frozen hrr 0; have fb := blk_frozen hrr 1; have R9 := Lib.hid hrr; have B12 := Lib.hid (B07.out.trans (b12.mono B07.out.size)); clear hb4 b12 hrr)
       have hgr : w.heap.size ≤ gr := Nat.le_of_eq HGR.out.symm
       refine bodyPost_ret (results_cell_row rfl _ _ gr 43 #[.int .i64 0, .string ⟨(logM (coOf cm X) Y).toArray⟩] (0, 0) _ rfl (blk_set (blk_set R9.out 0 (.int .i64 0)) 1 (.string ⟨(logM (coOf cm X) Y).toArray⟩)) Tryz.underlying43 rfl zq6) rfl ?_
       exact ⟨rfl, below_set (below_set B12.out hgr) hgr⟩
end Go.Proofs.YtpnoghcdfbmpoaaGreatDoor.PX.X

namespace Go.Proofs.YtpnoghcdfbmpoaaGreatDoor.PX.X
open Go Go.RowKit Go.Lib Go.Proofs.YtpnoghcdfbmpoaaGreatDoorW.PrintWords Go.Proofs.YtpnoghcdfbmpoaaGreatDoor.PX
set_option linter.unusedVariables false
set_option linter.unusedSimpArgs false
theorem below_and {wr w' : World} {a : Addr} {v : Value} (q : wr.cell? a = some v) (hb : Below wr.heap.size wr w') : Below wr.heap.size wr w' ∧ w'.cell? a = some v := ⟨hb, kc2 q hb⟩
theorem C_takeI {w : World} {A : Option Addr} {l : List Int} {m : Nat} (h : Kd.C (Kd.int .i64) w A l.length l) (hm : m ≤ l.length) : Kd.C (Kd.int .i64) w A m (l.take m) := by
 have h2 := Kd.C_take h hm
 rw [List.length_take, Nat.min_eq_left hm] at h2
 exact h2
theorem C_dropI {w : World} {A : Option Addr} {l : List Int} {m c : Nat} (h : Kd.C (Kd.int .i64) w A l.length l) (hm : m ≤ l.length) (hc : l.length ≤ c) : Kd.C (Kd.int .i64) w (if c = m then A else A.map (·.add m)) (l.length - m) (l.drop m) := by
 have h2 := Kd.C_drop h hm hc
 rw [List.length_drop, show (Kd.int .i64).sz = 1 from rfl, Nat.mul_one] at h2
 exact h2
theorem C_oneI {W : World} {m : Nat} {s : Int} (h : W.heap[m]? = some (.cells #[.int .i64 s] 2 (0, 0))) : Kd.C (Kd.int .i64) W (some ⟨m, 0, none⟩) 1 [s] := by
 refine Kd.C_of_reads (d := (0 : Int)) ⟨rfl, by decide, fun _ => ⟨_, rfl, fun j hj => ?_⟩⟩
 match j, hj with
 | 0, _ => exact (blk_cell h 0).trans rfl
theorem R_emptyI {W : World} {n B : Nat} (hn : B ≤ n) (h : W.heap[n]? = some (.cells #[] 2 (0, 0))) : Kd.R (Kd.int .i64) 2 W B (fun _ => True) (.slice (some ⟨n, 0, none⟩) 0 0) [] := by
 refine ⟨fun _ _ => trivial, [], ⟨rfl, .inr ⟨n, 0, #[], rfl, hn, h, Nat.le_refl _, by decide, rfl, rfl⟩⟩, Reps.none _ _⟩
def lineS (cm : ByteArray → CmR) (x : ByteArray) : ByteArray := ((((x ++ (⟨#[32]⟩ : ByteArray)) ++ stI (cm x).2.2.1) ++ (⟨#[32]⟩ : ByteArray)) ++ (cm x).2.2.2.1) ++ (⟨#[10]⟩ : ByteArray)
def logS (cm : ByteArray → CmR) (l : List ByteArray) : List UInt8 := l.flatMap fun x => (lineS cm x).data.toList
theorem logS_step (cm : ByteArray → CmR) (l : List ByteArray) (i : Nat) (hi : i < l.length) : logS cm (l.take (i + 1)) = logS cm (l.take i) ++ (lineS cm (l.getD i ByteArray.empty)).data.toList := by
 rw [List.take_succ_eq_append_getElem hi, List.getD_eq_getElem?_getD, List.getElem?_eq_getElem hi, Option.getD_some]
 unfold logS
 rw [List.flatMap_append]
 simp
theorem logS_le (cm : ByteArray → CmR) (l : List ByteArray) (i : Nat) : (logS cm (l.take i)).length ≤ (logS cm l).length := by
 have h1 : logS cm l = logS cm (l.take i) ++ logS cm (l.drop i) := by
  unfold logS
  rw [← List.flatMap_append, List.take_append_drop]
 rw [h1, List.length_append]
 omega
set_option maxHeartbeats 4000000 in
set_option maxRecDepth 100000 in
theorem logS_main (k : Nat) (A0 : Option Addr) (c0 : Nat) (l0 : List S50) (id : ByteArray) (X : List ByteArray) (cm : ByteArray → CmR) (w : World) (hr0 : Kd.C k50 w A0 l0.length l0) (hc0 : l0.length ≤ c0) (hst : spec_StoreFault.f k l0 = some 0) (hx : spec_l9History.f k l0 id = some (X, 0)) (hX : X.length ≤ 1048576)
 (hcm : ∀ x, spec_l9Commit.f k l0 x = some (cm x)) (hdig : ∀ x ∈ X, spec_l3Digits.f k (cm x).2.2.1 = some (stI (cm x).2.2.1)) (hfit : ∀ tm : ByteArray → Int, (∀ z, tm z = (cm z).2.2.1) → (logS cm (ordR tm X)).length ≤ 140737488355328) :
 Calls Tryz.prog 24 #[.slice A0 l0.length c0, .string id] w fun e w' => e = .returned (.agg #[.int .i64 0, .string ⟨(logS cm (ordR (fun z => (cm z).2.2.1) X)).toArray⟩]) ∧ Below w.heap.size w w' := by
 have HST := Lib.hid (fun (W : World) (hw : Below w.heap.size w W) => spec_StoreFault.calls k A0 c0 l0 0 W (Kd.C_below hr0 hw) hc0 hst)
 have HX := Lib.hid (fun (W : World) (hw : Below w.heap.size w W) => spec_l9History.calls k A0 c0 l0 id X 0 W (Kd.C_below hr0 hw) hc0 hx)
 have HCM := Lib.hid (fun x (W : World) (hw : Below w.heap.size w W) => spec_l9Commit.calls k A0 c0 l0 x (cm x).1 (cm x).2.1 (cm x).2.2.1 (cm x).2.2.2.1 (cm x).2.2.2.2 W (Kd.C_below hr0 hw) hc0 (hcm x))
 have HDIG := Lib.hid hdig
 have HFIT := Lib.hid hfit
 clear hr0 hc0 hst hx hcm hdig hfit
 have hu := Tryz.underlying60
 have hwn : IntKind.i64.wrap ((X.length : Int) - 1) = (X.length : Int) - 1 := IntWalk.i64_in _ zq7
 go_enter Tryz.func24, Tryz.ntmps24
 go_wp2_with (first
  | ((with_reducible refine gate_dst (N := 4) rfl ?_); refine box_event ?hg (N := 4) ?hd (cs := #[.int .i64 0, .string (⟨#[]⟩ : ByteArray)]) (t := 43) ?hr ?_; (case hd => rfl); (case hg => rfl); (case hr => first | (go_simp; done) | (go_simp; rfl)); intro gr hgr w1 hbox hb1; have HRB := Lib.hid hbox; have HB1 := Lib.hid hb1; have HGR := Lib.hid hgr; clear hbox hb1 hgr)
  | (go_at_call 28; (with_reducible refine (HST.out w1 HB1.out).mono ?_); rintro e w2 ⟨rfl, hb2⟩; have HB2 := Lib.hid hb2; have B2 := Lib.hid (HB1.out.trans (hb2.mono HB1.out.size)); clear hb2)
  | (go_at_call 34; (with_reducible refine (HX.out w2 B2.out).mono ?_); rintro e w3 ⟨v3, rfl, hoo_, hbb_⟩; obtain ⟨A3, c3, rfl⟩ := Kd.R_slice hoo_; have C3 := Lib.hid (Kd.R_reads' hoo_).2.2; have B13 := Lib.hid (HB2.out.trans (hbb_.mono HB2.out.size)); clear hoo_ hbb_)
  | ((with_reducible refine gate_dst (N := 34) rfl ?_); refine Kd.R_lit Kd.string _ 9 ?hg (N := 34) ?hd (xs := ([] : List ByteArray)) (inner := []) (ok := fun _ => True) (okp := fun _ => True) ?hr ?hp (fun _ hk => hk) trivial (Below.refl _ _) (Nat.le_refl _) zq12 ?_; (case hd => rfl); (case hg => rfl); (case hr => first | (go_simp; done) | (go_simp; rfl)); (case hp => exact (Reps.none _ _)); intro v4 w4 hoo_ hbb_ hg_ hnew_; clear hnew_ hg_; obtain ⟨A4, c4, rfl⟩ := Kd.R_slice hoo_; have O4 := Lib.hid hoo_; have B34 := Lib.hid hbb_; clear hoo_ hbb_)
  | ((with_reducible refine gate_dst (N := 35) rfl ?_); refine Kd.R_lit (Kd.int .i64) _ 2 ?hg (N := 35) ?hd (xs := ([] : List Int)) (inner := []) (ok := fun _ => True) (okp := fun _ => True) ?hr ?hp (fun _ hk => hk) trivial (Below.refl _ _) (Nat.le_refl _) zq12 ?_; (case hd => rfl); (case hg => rfl); (case hr => first | (go_simp; done) | (go_simp; rfl)); (case hp => exact (Reps.none _ _)); intro v5 w5 hoo_ hbb_ hg_ hnew_; clear hnew_ hg_; obtain ⟨A5, c5, rfl⟩ := Kd.R_slice hoo_; have O5 := Lib.hid (Kd.R_reads' hoo_).2.2; have O4' := Lib.hid (Kd.R_reads' (Kd.R_below O4.out hbb_)).2.2; have B35 := Lib.hid (B34.out.trans (hbb_.mono B34.out.size)); clear hoo_ hbb_))
 have B5 := Lib.hid (B13.out.trans (B35.out.mono B13.out.size))
 have CX5 := Lib.hid (Kd.C_below C3.out B35.out)
 clear HST HX B2 B34 B35 O4 C3 B13 HB2
 have htm : ∀ z, (fun z => (cm z).2.2.1) z = (cm z).2.2.1 := fun _ => rfl
 obtain ⟨tm, htm2⟩ : ∃ tm : ByteArray → Int, tm = fun z => (cm z).2.2.1 := ⟨_, rfl⟩
 have HTM := Lib.hid (fun z => (congrFun htm2 z : tm z = (cm z).2.2.1))
 have HTM2 := Lib.hid htm2
 clear htm htm2
 go_loopg [8, 9, 10] (X.length + 1) (fun gg s8 s9 s10 wr => ∃ (d : Nat) (L : List ByteArray) (T : List Int) (Ao : Option Addr) (co : Nat) (At : Option Addr) (ct : Nat), s8 = .slice Ao L.length co ∧ s9 = .slice At T.length ct ∧ ((∃ e : Nat, s10 = .int .i64 e ∧ d ≤ e + 1 ∧ e + 1 ≤ d) ∨ (s10 = .int .i64 (-1) ∧ d ≤ 0)) ∧ d ≤ X.length ∧ d + 1 ≤ gg ∧ L.length ≤ co ∧ T.length ≤ ct ∧ L.length ≤ T.length ∧ T.length ≤ L.length ∧ L.length + d ≤ X.length ∧ Aside (L = ordR tm (X.drop d)) ∧ Aside (T = L.map tm) ∧ Aside (Kd.C Kd.string wr Ao L.length L) ∧ Aside (Kd.C (Kd.int .i64) wr At T.length T) ∧ Aside (Below w1.heap.size w1 wr) ∧ Aside (Kd.C Kd.string wr A3 X.length X))
 case atStart =>
  rcases Nat.eq_zero_or_pos X.length with hz | hz
  · exact ⟨X.length, [], [], A4, c4, A5, c5, rfl, rfl, .inr ⟨congrArg (Value.int .i64) zq7, by omega⟩, Nat.le_refl _, Nat.le_refl _, Nat.zero_le _, Nat.zero_le _, Nat.le_refl _, Nat.le_refl _, by simp, (show Aside _ from by rw [List.drop_length]; rfl), rfl, O4'.out, O5.out, B5.out, CX5.out⟩
  · exact ⟨X.length, [], [], A4, c4, A5, c5, rfl, rfl, .inl ⟨X.length - 1, congrArg (Value.int .i64) zq7, by omega, by omega⟩, Nat.le_refl _, Nat.le_refl _, Nat.zero_le _, Nat.zero_le _, Nat.le_refl _, Nat.le_refl _, by simp, (show Aside _ from by rw [List.drop_length]; rfl), rfl, O4'.out, O5.out, B5.out, CX5.out⟩
 case round =>
  clear O4' O5 B5 CX5 hwn
  rename World => wq
  obtain ⟨d, L, T, Ao, co, At, ct, rfl, rfl, hs10, hdX, hgg, hco, hct, hLT, hTL, hLd, HL, HT, CL, CT, BQ, CX⟩ := hrel
  rcases hs10 with ⟨e, rfl, hde1, hde2⟩ | ⟨rfl, hd0⟩
  · have hex : e < X.length := by omega
    have hez : (0 : Int) ≤ (e : Int) := Int.natCast_nonneg e
    have hel : (e : Int) < (X.length : Int) := by omega
    obtain ⟨ad, hA, q0⟩ := Kd.at_string CX.out (e : Int) hez hel
    subst hA
    rw [rdS, Int.toNat_natCast] at q0
    have hdr := drop_getS X e hex
    generalize X.getD e ByteArray.empty = x at q0 hdr
    have HDR := Lib.hid hdr
    have htx := HTM.out x
    have B0 := Lib.hid (HB1.out.trans (BQ.out.mono HB1.out.size))
    have HCX := Lib.hid (HCM.out x wq B0.out)
    clear hdr
    generalize cm x = y at HCX htx
    obtain ⟨y1, ps, y3, y4, y5⟩ := y
    simp only at HCX htx
    have HTX := Lib.hid htx
    clear htx
    go_wp2_with (first
     | (go_at_call 40; (with_reducible refine HCX.out.mono ?_); rintro e w6 ⟨v6, rfl, hoo_, hbb_⟩; obtain ⟨A6, c6, rfl⟩ := Kd.R_slice hoo_; have B6 := Lib.hid hbb_; clear hoo_ hbb_)
     | ((with_reducible refine gate_dst (N := 11) rfl ?_); refine box_event ?hg (N := 11) ?hd (cs := #[.string (⟨#[]⟩ : ByteArray), .slice none 0 0, .int .i64 0, .string (⟨#[]⟩ : ByteArray)]) (t := 60) ?hr ?_; (case hd => rfl); (case hg => rfl); (case hr => first | (go_simp; done) | (go_simp; rfl)); intro gb hgb w7 hbox hb4; have HBX := Lib.hid hbox; have B4 := Lib.hid hb4; have HGB := Lib.hid hgb; have y0 := (blk_cell hbox 0).trans rfl; have y1' := (blk_cell hbox 1).trans rfl; have y2 := (blk_cell hbox 2).trans rfl; have y3' := (blk_cell hbox 3).trans rfl; have f0 := blk_frozen hbox 0; have f1 := blk_frozen hbox 1; have f2 := blk_frozen hbox 2; have f3 := blk_frozen hbox 3; clear hbox hb4 hgb))
    have hgb : w6.heap.size ≤ gb := Nat.le_of_eq HGB.out.symm
    have hbk : ((((w7.setCell ⟨gb, 0, none⟩ (.string y1)).setCell ⟨gb, 1, none⟩ (.slice A6 ps.length c6)).setCell ⟨gb, 2, none⟩ (.int .i64 y3)).setCell ⟨gb, 3, none⟩ (.string y4)).heap[gb]? = some (.cells #[.string y1, .slice A6 ps.length c6, .int .i64 y3, .string y4] 60 (0, 0)) := blk_put (cs := #[.string y1, .slice A6 ps.length c6, .int .i64 y3, .string ⟨#[]⟩]) (blk_put (cs := #[.string y1, .slice A6 ps.length c6, .int .i64 0, .string ⟨#[]⟩]) (blk_put (cs := #[.string y1, .slice none 0 0, .int .i64 0, .string ⟨#[]⟩]) (blk_put (cs := #[.string ⟨#[]⟩, .slice none 0 0, .int .i64 0, .string ⟨#[]⟩]) HBX.out 0 (.string y1) rfl) 1 (.slice A6 ps.length c6) rfl) 2 (.int .i64 y3) rfl) 3 (.string y4) rfl
    have hb8 : Below wq.heap.size wq ((((w7.setCell ⟨gb, 0, none⟩ (.string y1)).setCell ⟨gb, 1, none⟩ (.slice A6 ps.length c6)).setCell ⟨gb, 2, none⟩ (.int .i64 y3)).setCell ⟨gb, 3, none⟩ (.string y4)) := B6.out.trans ((below_set (below_set (below_set (below_set B4.out hgb) hgb) hgb) hgb).mono B6.out.size)
    generalize ((((w7.setCell ⟨gb, 0, none⟩ (.string y1)).setCell ⟨gb, 1, none⟩ (.slice A6 ps.length c6)).setCell ⟨gb, 2, none⟩ (.int .i64 y3)).setCell ⟨gb, 3, none⟩ (.string y4)) = w8 at hbk hb8 ⊢
    have HBK := Lib.hid hbk
    have B8 := Lib.hid hb8
    have HQ0 := Lib.hid q0
    clear y0 y1' y2 y3' f0 f1 f2 f3 HBX B4 HGB B6 hbk hb8 hgb q0 HCX
    have hqL := Nat.le_refl L.length
    go_loopg [13] L.length (fun gg2 s13 wr2 => ∃ q : Nat, s13 = .int .i64 q ∧ q ≤ L.length ∧ q ≤ gg2 ∧ Aside (atR tm y3 L L.length = atR tm y3 L q) ∧ Aside (Below w8.heap.size w8 wr2))
    case atStart => exact ⟨L.length, rfl, Nat.le_refl _, Nat.le_refl _, rfl, Below.refl _ _⟩
    case round =>
     rename World => wp
     obtain ⟨q, rfl, hq, hgg2, HA, BP⟩ := hrel
     have x2 : wp.cell? ⟨gb, 2, none⟩ = some (.int .i64 y3) := (blk_cell (blk_below HBK.out BP.out) 2).trans rfl
     rcases Nat.eq_zero_or_pos q with hq0 | hq0
     rotate_left
     · obtain ⟨m, hm⟩ : ∃ m, q = m + 1 := ⟨q - 1, by omega⟩
       have hp1 : decide ((0 : Int) < (q : Int)) = true := decide_eq_true zq7
       have hp2 : decide (0 < q) = true := decide_eq_true hq0
       have hp3 : 0 < q := hq0
       have hmT : m < T.length := by omega
       have hmz : (0 : Int) ≤ (m : Int) := Int.natCast_nonneg m
       have hml : (m : Int) < (T.length : Int) := by omega
       obtain ⟨at_, hAt, t0⟩ := Kd.at_int (Kd.C_below (Kd.C_below CT.out B8.out) BP.out) (m : Int) hmz hml
       subst hAt
       have hrd : rd T (m : Int) = tm (L.getD m ByteArray.empty) := by
        rw [HT.out]
        show (L.map tm).getD ((m : Int)).toNat 0 = _
        rw [Int.toNat_natCast, List.getD_eq_getElem?_getD, List.getElem?_map, List.getElem?_eq_getElem (show m < L.length by omega), List.getD_eq_getElem?_getD, List.getElem?_eq_getElem (show m < L.length by omega)]
        rfl
       rw [hrd, Int.toNat_natCast] at t0
       have hA := HA.out
       rw [hm] at hA
       rw [show atR tm y3 L (m + 1) = if tm (L.getD m ByteArray.empty) < y3 then atR tm y3 L m else m + 1 from rfl] at hA
       have hwi : IntKind.i64.wrap ((q : Int) - 1) = (m : Int) := (IntWalk.i64_in _ zq7).trans zq7
       have HM := Lib.hid hm
       by_cases hv : tm (L.getD m ByteArray.empty) < y3
       · rw [if_pos hv] at hA
         have HAM := Lib.hid hA
         have hvd : decide (tm (L.getD m ByteArray.empty) < y3) = true := decide_eq_true hv
         generalize tm (L.getD m ByteArray.empty) = u at t0 hvd
         clear hrd hA hv hm hq0
         go_wp2
         go_quiet (fail)
         have BV := Lib.hid (show Below w8.heap.size w8 (wp.drewN nq) from pw_below_drewN BP.out nq)
         generalize wp.drewN nq = V at BV ⊢
         clear x2 t0 hvd
         go_wp2
         go_roundg m
         case measure => have := HM.out; omega
         case rel => exact ⟨m, rfl, by have := HM.out; omega, Nat.le_refl _, HAM.out, BV.out⟩
       · rw [if_neg hv] at hA
         have HAQ := Lib.hid (show atR tm y3 L L.length = q from hA.trans hm.symm)
         have hvd : decide (tm (L.getD m ByteArray.empty) < y3) = false := decide_eq_false hv
         generalize tm (L.getD m ByteArray.empty) = u at t0 hvd
         clear hrd hA hv hm hq0
         go_wp2
         go_quiet (fail)
         have BV := Lib.hid (show Below w8.heap.size w8 (wp.drewN nq) from pw_below_drewN BP.out nq)
         generalize wp.drewN nq = V at BV ⊢
         clear x2 t0 hvd
         go_wp2
         have B8V := Lib.hid (B8.out.trans (BV.out.mono B8.out.size))
         have CLV := Lib.hid (Kd.C_below CL.out B8V.out)
         have CTV0 := Lib.hid (Kd.C_below CT.out B8V.out)
         have q0 := kc2 HQ0.out B8V.out
         have hqT : q ≤ T.length := by omega
         have hqc : q ≤ co := by omega
         have hkc : (q : Int) ≤ (co : Int) := by omega
         have hkl : (q : Int) ≤ (L.length : Int) := by omega
         have hkcT : (q : Int) ≤ (ct : Int) := by omega
         have hklT : (q : Int) ≤ (T.length : Int) := by omega
         have hk1 : ((q : Int)).toNat = q := Int.toNat_natCast q
         have hK0 : Below V.heap.size V V.drew := (Below.refl _ _).drew
         go_region_held3 (fun w' => Below V.heap.size V w' ∧ w'.cell? (ad.add e) = some (.string x)) ((refine below_and q0 ?_; with_reducible repeat (first | assumption | exact Below.refl _ _ | apply below_alloc | apply pw_below_drewN | apply below_drew1)))
          (first
            | (refine Kd.R_append_rows_step Kd.string (w0 := V) V.heap.size zq19 (.tmp 68) (.tmp 71) 29 9 (.string ⟨#[]⟩) 16 zq19 Tryz.underlying29 info9 rfl zq9 zq9 _ ([] : List ByteArray) (L.take q) _ q co (fun _ => True) (fun _ => False) zq19 zq19 ?aO ?aR (fun _ _ h => h) (fun _ h => h.elim) (fun _ _ => trivial) ?aB ?aS ?aL ?_
               (case aO => exact R_empty_of zq24 (by with_reducible repeat (first | exact blk_new _ _ | exact blk_new1 _ _ _ | refine blk_drew ?_ | refine blk_alloc ?_ _)))
               (case aR => exact C_takeK (Kd.C_below CLV.out zq4) hq)
               (case aB => exact zq4)
               (case aS => exact below_size zq4)
               (case aL => simp only [List.length_nil]; omega)
               intro v1a w1a ho1a hb1a hg1a hat1a
               clear hat1a)
            | (refine Kd.R_append_rows_step Kd.string (w0 := V) V.heap.size zq19 (.tmp 72) (.tmp 77) 29 9 (.string ⟨#[]⟩) 16 zq19 Tryz.underlying29 info9 rfl zq9 zq9 v1a ([] ++ L.take q) [x] _ 1 1 (fun _ => True) (fun _ => False) zq19 zq19 ?aO ?aR (fun _ _ h => h) (fun _ h => h.elim) (fun _ _ => trivial) ?aB ?aS ?aL ?_
               (case aO => exact (by with_reducible repeat (first | exact ho1a | apply Kd.R_alloc | apply Kd.R_drewN | apply Kd.R_drew)))
               (case aR => refine C_one_of ?_; first | ((with_reducible repeat (first | exact blk_new _ _ | exact blk_new1 _ _ _ | refine blk_drew ?_ | refine blk_alloc ?_ _)); done) | (refine (grown_at hg1a _ rfl _ (by rw [size_two]; omega) zq15).trans ?_; (with_reducible repeat (first | exact blk_new _ _ | exact blk_new1 _ _ _ | refine blk_drew ?_ | refine blk_alloc ?_ _)); done))
               (case aB => exact zq4)
               (case aS => exact below_size zq4)
               (case aL => rw [List.nil_append, List.length_take]; omega)
               clear ho1a hg1a
               intro v2a w2a ho2a hb2a hg2a hat2a
               clear hg2a hat2a)
            | (refine Kd.R_append_rows_step Kd.string (w0 := V) V.heap.size zq19 (.tmp 78) (.tmp 81) 29 9 (.string ⟨#[]⟩) 16 zq19 Tryz.underlying29 info9 rfl zq9 zq9 v2a ([] ++ L.take q ++ [x]) (L.drop q) _ (L.length - q) (co - q) (fun _ => True) (fun _ => False) zq19 zq19 ?aO ?aR (fun _ _ h => h) (fun _ h => h.elim) (fun _ _ => trivial) ?aB ?aS ?aL ?_
               (case aO => exact (by with_reducible repeat (first | exact ho2a | apply Kd.R_alloc | apply Kd.R_drewN | apply Kd.R_drew)))
               (case aR => exact C_dropK (Kd.C_below CLV.out zq4) hq hco)
               (case aB => exact zq4)
               (case aS => exact below_size zq4)
               (case aL => rw [List.nil_append, List.length_append, List.length_take, List.length_singleton]; omega)
               clear ho2a
               intro v3a w3a ho3a hb3a hg3a hat3a
               clear hg3a hat3a))
         all_goals go_wp2
         all_goals (
          rw [List.nil_append] at ho3a
          obtain ⟨L9, hL9⟩ : ∃ L9, L.take q ++ [x] ++ L.drop q = L9 := ⟨_, rfl⟩
          rw [hL9] at ho3a
          have HL9 := Lib.hid hL9
          obtain ⟨Av, cv, rfl⟩ := Kd.R_slice ho3a
          have RL9 := Lib.hid ho3a
          have BVA := Lib.hid hb3a
          have CTV := Lib.hid (Kd.C_below CTV0.out hb3a)
          have x2a : w3a.cell? ⟨gb, 2, none⟩ = some (.int .i64 y3) := (blk_cell (blk_below (blk_below HBK.out BV.out) hb3a) 2).trans rfl
          clear hL9 ho3a hb3a q0 hK0
          have hK0 : Below w3a.heap.size w3a w3a.drew := (Below.refl _ _).drew
          go_region_held3 (fun w' => Below w3a.heap.size w3a w' ∧ w'.cell? ⟨gb, 2, none⟩ = some (.int .i64 y3)) ((refine below_and x2a ?_; with_reducible repeat (first | assumption | exact Below.refl _ _ | apply below_alloc | apply pw_below_drewN | apply below_drew1)))
           (first
             | (refine Kd.R_append_rows_step (Kd.int .i64) (w0 := w3a) w3a.heap.size zq19 (.tmp 83) (.tmp 86) 58 2 (.int .i64 0) 8 zq19 Tryz.underlying58 info2 rfl zq9 zq9 _ ([] : List Int) (T.take q) _ q ct (fun _ => True) (fun _ => False) zq19 zq19 ?aO ?aR (fun _ _ h => h) (fun _ h => h.elim) (fun _ _ => trivial) ?aB ?aS ?aL ?_
                (case aO => exact R_emptyI zq24 (by with_reducible repeat (first | exact blk_new _ _ | exact blk_new1 _ _ _ | refine blk_drew ?_ | refine blk_alloc ?_ _)))
                (case aR => exact C_takeI (Kd.C_below CTV.out zq4) hqT)
                (case aB => exact zq4)
                (case aS => exact below_size zq4)
                (case aL => simp only [List.length_nil]; omega)
                intro v1b w1b ho1b hb1b hg1b hat1b
                clear hat1b)
             | (refine Kd.R_append_rows_step (Kd.int .i64) (w0 := w3a) w3a.heap.size zq19 (.tmp 87) (.tmp 90) 58 2 (.int .i64 0) 8 zq19 Tryz.underlying58 info2 rfl zq9 zq9 v1b ([] ++ T.take q) [y3] _ 1 1 (fun _ => True) (fun _ => False) zq19 zq19 ?aO ?aR (fun _ _ h => h) (fun _ h => h.elim) (fun _ _ => trivial) ?aB ?aS ?aL ?_
                (case aO => exact (by with_reducible repeat (first | exact ho1b | apply Kd.R_alloc | apply Kd.R_drewN | apply Kd.R_drew)))
                (case aR => refine C_oneI ?_; first | ((with_reducible repeat (first | exact blk_new _ _ | exact blk_new1 _ _ _ | refine blk_drew ?_ | refine blk_alloc ?_ _)); done) | (refine (grown_at hg1b _ rfl _ (by rw [size_two]; omega) zq15).trans ?_; (with_reducible repeat (first | exact blk_new _ _ | exact blk_new1 _ _ _ | refine blk_drew ?_ | refine blk_alloc ?_ _)); done))
                (case aB => exact zq4)
                (case aS => exact below_size zq4)
                (case aL => rw [List.nil_append, List.length_take]; omega)
                clear ho1b hg1b
                intro v2b w2b ho2b hb2b hg2b hat2b
                clear hg2b hat2b)
             | (refine Kd.R_append_rows_step (Kd.int .i64) (w0 := w3a) w3a.heap.size zq19 (.tmp 91) (.tmp 94) 58 2 (.int .i64 0) 8 zq19 Tryz.underlying58 info2 rfl zq9 zq9 v2b ([] ++ T.take q ++ [y3]) (T.drop q) _ (T.length - q) (ct - q) (fun _ => True) (fun _ => False) zq19 zq19 ?aO ?aR (fun _ _ h => h) (fun _ h => h.elim) (fun _ _ => trivial) ?aB ?aS ?aL ?_
                (case aO => exact (by with_reducible repeat (first | exact ho2b | apply Kd.R_alloc | apply Kd.R_drewN | apply Kd.R_drew)))
                (case aR => exact C_dropI (Kd.C_below CTV.out zq4) hqT hct)
                (case aB => exact zq4)
                (case aS => exact below_size zq4)
                (case aL => rw [List.nil_append, List.length_append, List.length_take, List.length_singleton]; omega)
                clear ho2b
                intro v3b w3b ho3b hb3b hg3b hat3b
                clear hg3b hat3b))
          all_goals (
           rw [List.nil_append] at ho3b
           obtain ⟨T9, hT9⟩ : ∃ T9, T.take q ++ [y3] ++ T.drop q = T9 := ⟨_, rfl⟩
           rw [hT9] at ho3b
           obtain ⟨Aw, cw, rfl⟩ := Kd.R_slice ho3b
           have RT9 := Lib.hid ho3b
           have BVB := Lib.hid (BVA.out.trans (hb3b.mono BVA.out.size))
           have RL9' := Lib.hid (Kd.R_below RL9.out hb3b)
           have e9 : L9 = ordR tm (X.drop e) := by
            rw [HDR.out, show X.drop (e + 1) = X.drop d from by rw [show e + 1 = d by omega]]
            show _ = insR tm x (ordR tm (X.drop d))
            unfold insR
            rw [← HL.out, HTX.out, HAQ.out, HL9.out]
           have f9 : T9 = L9.map tm := by
            rw [← HL9.out, ← hT9, HT.out, List.map_append, List.map_append, List.map_take, List.map_drop, List.map_cons, List.map_nil, HTX.out]
           have g9 : L9.length = L.length + 1 := by
            rw [← HL9.out, List.length_append, List.length_append, List.length_take, List.length_drop, List.length_singleton]
            omega
           have g9' : T9.length = T.length + 1 := by
            rw [← hT9, List.length_append, List.length_append, List.length_take, List.length_drop, List.length_singleton]
            omega
           have k1 := (Kd.R_reads' RL9.out).2.1
           have k2 := (Kd.R_reads' RT9.out).2.1
           have k3 : L9.length ≤ T9.length ∧ T9.length ≤ L9.length ∧ L9.length + e ≤ X.length := by omega
           have E9 := Lib.hid e9
           have F9 := Lib.hid f9
           have K9 := Lib.hid (And.intro k1 (And.intro k2 k3))
           have hwe : IntKind.i64.wrap ((e : Int) - 1) = (e : Int) - 1 := IntWalk.i64_in _ zq7
           clear e9 f9 g9 g9' k1 k2 k3 hT9 ho3b hb3b x2a hK0
           go_wp2
           all_goals (
            go_roundg d
            case measure => omega
            case rel =>
             clear hwe
             have k := K9.out
             have bz := (BQ.out.trans ((B8V.out.trans (BVB.out.mono B8V.out.size)).mono BQ.out.size))
             have cx := Kd.C_below CX.out (B8V.out.trans (BVB.out.mono B8V.out.size))
             rcases Nat.eq_zero_or_pos e with hz | hz
             · exact ⟨e, L9, T9, Av, cv, Aw, cw, rfl, rfl, .inr ⟨congrArg (Value.int .i64) zq7, by omega⟩, by omega, by omega, k.1, k.2.1, k.2.2.1, k.2.2.2.1, k.2.2.2.2, E9.out, F9.out, (Kd.R_reads' RL9'.out).2.2, (Kd.R_reads' RT9.out).2.2, bz, cx⟩
             · exact ⟨e, L9, T9, Av, cv, Aw, cw, rfl, rfl, .inl ⟨e - 1, congrArg (Value.int .i64) zq7, by omega, by omega⟩, by omega, by omega, k.1, k.2.1, k.2.2.1, k.2.2.2.1, k.2.2.2.2, E9.out, F9.out, (Kd.R_reads' RL9'.out).2.2, (Kd.R_reads' RT9.out).2.2, bz, cx⟩)))
     · have hp1 : decide ((0 : Int) < (q : Int)) = false := decide_eq_false zq7
       have hp2 : decide (0 < q) = false := decide_eq_false zq7
       have hp3 : ¬ 0 < q := by omega
       have hA := HA.out
       rw [hq0] at hA
       have HAQ := Lib.hid (show atR tm y3 L L.length = q from hA.trans hq0.symm)
       clear hA hq0
       go_wp2
       go_quiet (fail)
       have BV := Lib.hid (show Below w8.heap.size w8 (wp.drewN nq) from pw_below_drewN BP.out nq)
       generalize wp.drewN nq = V at BV ⊢
       clear x2
       go_wp2
       have B8V := Lib.hid (B8.out.trans (BV.out.mono B8.out.size))
       have CLV := Lib.hid (Kd.C_below CL.out B8V.out)
       have CTV0 := Lib.hid (Kd.C_below CT.out B8V.out)
       have q0 := kc2 HQ0.out B8V.out
       have hqT : q ≤ T.length := by omega
       have hqc : q ≤ co := by omega
       have hkc : (q : Int) ≤ (co : Int) := by omega
       have hkl : (q : Int) ≤ (L.length : Int) := by omega
       have hkcT : (q : Int) ≤ (ct : Int) := by omega
       have hklT : (q : Int) ≤ (T.length : Int) := by omega
       have hk1 : ((q : Int)).toNat = q := Int.toNat_natCast q
       have hK0 : Below V.heap.size V V.drew := (Below.refl _ _).drew
       go_region_held3 (fun w' => Below V.heap.size V w' ∧ w'.cell? (ad.add e) = some (.string x)) ((refine below_and q0 ?_; with_reducible repeat (first | assumption | exact Below.refl _ _ | apply below_alloc | apply pw_below_drewN | apply below_drew1)))
        (first
          | (refine Kd.R_append_rows_step Kd.string (w0 := V) V.heap.size zq19 (.tmp 68) (.tmp 71) 29 9 (.string ⟨#[]⟩) 16 zq19 Tryz.underlying29 info9 rfl zq9 zq9 _ ([] : List ByteArray) (L.take q) _ q co (fun _ => True) (fun _ => False) zq19 zq19 ?aO ?aR (fun _ _ h => h) (fun _ h => h.elim) (fun _ _ => trivial) ?aB ?aS ?aL ?_
             (case aO => exact R_empty_of zq24 (by with_reducible repeat (first | exact blk_new _ _ | exact blk_new1 _ _ _ | refine blk_drew ?_ | refine blk_alloc ?_ _)))
             (case aR => exact C_takeK (Kd.C_below CLV.out zq4) hq)
             (case aB => exact zq4)
             (case aS => exact below_size zq4)
             (case aL => simp only [List.length_nil]; omega)
             intro v1a w1a ho1a hb1a hg1a hat1a
             clear hat1a)
          | (refine Kd.R_append_rows_step Kd.string (w0 := V) V.heap.size zq19 (.tmp 72) (.tmp 77) 29 9 (.string ⟨#[]⟩) 16 zq19 Tryz.underlying29 info9 rfl zq9 zq9 v1a ([] ++ L.take q) [x] _ 1 1 (fun _ => True) (fun _ => False) zq19 zq19 ?aO ?aR (fun _ _ h => h) (fun _ h => h.elim) (fun _ _ => trivial) ?aB ?aS ?aL ?_
             (case aO => exact (by with_reducible repeat (first | exact ho1a | apply Kd.R_alloc | apply Kd.R_drewN | apply Kd.R_drew)))
             (case aR => refine C_one_of ?_; first | ((with_reducible repeat (first | exact blk_new _ _ | exact blk_new1 _ _ _ | refine blk_drew ?_ | refine blk_alloc ?_ _)); done) | (refine (grown_at hg1a _ rfl _ (by rw [size_two]; omega) zq15).trans ?_; (with_reducible repeat (first | exact blk_new _ _ | exact blk_new1 _ _ _ | refine blk_drew ?_ | refine blk_alloc ?_ _)); done))
             (case aB => exact zq4)
             (case aS => exact below_size zq4)
             (case aL => rw [List.nil_append, List.length_take]; omega)
             clear ho1a hg1a
             intro v2a w2a ho2a hb2a hg2a hat2a
             clear hg2a hat2a)
          | (refine Kd.R_append_rows_step Kd.string (w0 := V) V.heap.size zq19 (.tmp 78) (.tmp 81) 29 9 (.string ⟨#[]⟩) 16 zq19 Tryz.underlying29 info9 rfl zq9 zq9 v2a ([] ++ L.take q ++ [x]) (L.drop q) _ (L.length - q) (co - q) (fun _ => True) (fun _ => False) zq19 zq19 ?aO ?aR (fun _ _ h => h) (fun _ h => h.elim) (fun _ _ => trivial) ?aB ?aS ?aL ?_
             (case aO => exact (by with_reducible repeat (first | exact ho2a | apply Kd.R_alloc | apply Kd.R_drewN | apply Kd.R_drew)))
             (case aR => exact C_dropK (Kd.C_below CLV.out zq4) hq hco)
             (case aB => exact zq4)
             (case aS => exact below_size zq4)
             (case aL => rw [List.nil_append, List.length_append, List.length_take, List.length_singleton]; omega)
             clear ho2a
             intro v3a w3a ho3a hb3a hg3a hat3a
             clear hg3a hat3a))
       all_goals go_wp2
       all_goals (
        rw [List.nil_append] at ho3a
        obtain ⟨L9, hL9⟩ : ∃ L9, L.take q ++ [x] ++ L.drop q = L9 := ⟨_, rfl⟩
        rw [hL9] at ho3a
        have HL9 := Lib.hid hL9
        obtain ⟨Av, cv, rfl⟩ := Kd.R_slice ho3a
        have RL9 := Lib.hid ho3a
        have BVA := Lib.hid hb3a
        have CTV := Lib.hid (Kd.C_below CTV0.out hb3a)
        have x2a : w3a.cell? ⟨gb, 2, none⟩ = some (.int .i64 y3) := (blk_cell (blk_below (blk_below HBK.out BV.out) hb3a) 2).trans rfl
        clear hL9 ho3a hb3a q0 hK0
        have hK0 : Below w3a.heap.size w3a w3a.drew := (Below.refl _ _).drew
        go_region_held3 (fun w' => Below w3a.heap.size w3a w' ∧ w'.cell? ⟨gb, 2, none⟩ = some (.int .i64 y3)) ((refine below_and x2a ?_; with_reducible repeat (first | assumption | exact Below.refl _ _ | apply below_alloc | apply pw_below_drewN | apply below_drew1)))
         (first
           | (refine Kd.R_append_rows_step (Kd.int .i64) (w0 := w3a) w3a.heap.size zq19 (.tmp 83) (.tmp 86) 58 2 (.int .i64 0) 8 zq19 Tryz.underlying58 info2 rfl zq9 zq9 _ ([] : List Int) (T.take q) _ q ct (fun _ => True) (fun _ => False) zq19 zq19 ?aO ?aR (fun _ _ h => h) (fun _ h => h.elim) (fun _ _ => trivial) ?aB ?aS ?aL ?_
              (case aO => exact R_emptyI zq24 (by with_reducible repeat (first | exact blk_new _ _ | exact blk_new1 _ _ _ | refine blk_drew ?_ | refine blk_alloc ?_ _)))
              (case aR => exact C_takeI (Kd.C_below CTV.out zq4) hqT)
              (case aB => exact zq4)
              (case aS => exact below_size zq4)
              (case aL => simp only [List.length_nil]; omega)
              intro v1b w1b ho1b hb1b hg1b hat1b
              clear hat1b)
           | (refine Kd.R_append_rows_step (Kd.int .i64) (w0 := w3a) w3a.heap.size zq19 (.tmp 87) (.tmp 90) 58 2 (.int .i64 0) 8 zq19 Tryz.underlying58 info2 rfl zq9 zq9 v1b ([] ++ T.take q) [y3] _ 1 1 (fun _ => True) (fun _ => False) zq19 zq19 ?aO ?aR (fun _ _ h => h) (fun _ h => h.elim) (fun _ _ => trivial) ?aB ?aS ?aL ?_
              (case aO => exact (by with_reducible repeat (first | exact ho1b | apply Kd.R_alloc | apply Kd.R_drewN | apply Kd.R_drew)))
              (case aR => refine C_oneI ?_; first | ((with_reducible repeat (first | exact blk_new _ _ | exact blk_new1 _ _ _ | refine blk_drew ?_ | refine blk_alloc ?_ _)); done) | (refine (grown_at hg1b _ rfl _ (by rw [size_two]; omega) zq15).trans ?_; (with_reducible repeat (first | exact blk_new _ _ | exact blk_new1 _ _ _ | refine blk_drew ?_ | refine blk_alloc ?_ _)); done))
              (case aB => exact zq4)
              (case aS => exact below_size zq4)
              (case aL => rw [List.nil_append, List.length_take]; omega)
              clear ho1b hg1b
              intro v2b w2b ho2b hb2b hg2b hat2b
              clear hg2b hat2b)
           | (refine Kd.R_append_rows_step (Kd.int .i64) (w0 := w3a) w3a.heap.size zq19 (.tmp 91) (.tmp 94) 58 2 (.int .i64 0) 8 zq19 Tryz.underlying58 info2 rfl zq9 zq9 v2b ([] ++ T.take q ++ [y3]) (T.drop q) _ (T.length - q) (ct - q) (fun _ => True) (fun _ => False) zq19 zq19 ?aO ?aR (fun _ _ h => h) (fun _ h => h.elim) (fun _ _ => trivial) ?aB ?aS ?aL ?_
              (case aO => exact (by with_reducible repeat (first | exact ho2b | apply Kd.R_alloc | apply Kd.R_drewN | apply Kd.R_drew)))
              (case aR => exact C_dropI (Kd.C_below CTV.out zq4) hqT hct)
              (case aB => exact zq4)
              (case aS => exact below_size zq4)
              (case aL => rw [List.nil_append, List.length_append, List.length_take, List.length_singleton]; omega)
              clear ho2b
              intro v3b w3b ho3b hb3b hg3b hat3b
              clear hg3b hat3b))
        all_goals (
         rw [List.nil_append] at ho3b
         obtain ⟨T9, hT9⟩ : ∃ T9, T.take q ++ [y3] ++ T.drop q = T9 := ⟨_, rfl⟩
         rw [hT9] at ho3b
         obtain ⟨Aw, cw, rfl⟩ := Kd.R_slice ho3b
         have RT9 := Lib.hid ho3b
         have BVB := Lib.hid (BVA.out.trans (hb3b.mono BVA.out.size))
         have RL9' := Lib.hid (Kd.R_below RL9.out hb3b)
         have e9 : L9 = ordR tm (X.drop e) := by
          rw [HDR.out, show X.drop (e + 1) = X.drop d from by rw [show e + 1 = d by omega]]
          show _ = insR tm x (ordR tm (X.drop d))
          unfold insR
          rw [← HL.out, HTX.out, HAQ.out, HL9.out]
         have f9 : T9 = L9.map tm := by
          rw [← HL9.out, ← hT9, HT.out, List.map_append, List.map_append, List.map_take, List.map_drop, List.map_cons, List.map_nil, HTX.out]
         have g9 : L9.length = L.length + 1 := by
          rw [← HL9.out, List.length_append, List.length_append, List.length_take, List.length_drop, List.length_singleton]
          omega
         have g9' : T9.length = T.length + 1 := by
          rw [← hT9, List.length_append, List.length_append, List.length_take, List.length_drop, List.length_singleton]
          omega
         have k1 := (Kd.R_reads' RL9.out).2.1
         have k2 := (Kd.R_reads' RT9.out).2.1
         have k3 : L9.length ≤ T9.length ∧ T9.length ≤ L9.length ∧ L9.length + e ≤ X.length := by omega
         have E9 := Lib.hid e9
         have F9 := Lib.hid f9
         have K9 := Lib.hid (And.intro k1 (And.intro k2 k3))
         have hwe : IntKind.i64.wrap ((e : Int) - 1) = (e : Int) - 1 := IntWalk.i64_in _ zq7
         clear e9 f9 g9 g9' k1 k2 k3 hT9 ho3b hb3b x2a hK0
         go_wp2
         all_goals (
          go_roundg d
          case measure => omega
          case rel =>
           clear hwe
           have k := K9.out
           have bz := (BQ.out.trans ((B8V.out.trans (BVB.out.mono B8V.out.size)).mono BQ.out.size))
           have cx := Kd.C_below CX.out (B8V.out.trans (BVB.out.mono B8V.out.size))
           rcases Nat.eq_zero_or_pos e with hz | hz
           · exact ⟨e, L9, T9, Av, cv, Aw, cw, rfl, rfl, .inr ⟨congrArg (Value.int .i64) zq7, by omega⟩, by omega, by omega, k.1, k.2.1, k.2.2.1, k.2.2.2.1, k.2.2.2.2, E9.out, F9.out, (Kd.R_reads' RL9'.out).2.2, (Kd.R_reads' RT9.out).2.2, bz, cx⟩
           · exact ⟨e, L9, T9, Av, cv, Aw, cw, rfl, rfl, .inl ⟨e - 1, congrArg (Value.int .i64) zq7, by omega, by omega⟩, by omega, by omega, k.1, k.2.1, k.2.2.1, k.2.2.2.1, k.2.2.2.2, E9.out, F9.out, (Kd.R_reads' RL9'.out).2.2, (Kd.R_reads' RT9.out).2.2, bz, cx⟩)))
  · have hLX : ordR tm X = L := by
     have := HL.out
     rw [show d = 0 by omega, List.drop_zero] at this
     exact this.symm
    have HLX := Lib.hid hLX
    have B0 := Lib.hid (HB1.out.trans (BQ.out.mono HB1.out.size))
    have hll : L.length ≤ X.length := by omega
    clear hLX HL HT CT hLT hTL hct hgg hd0 hLd CX
    go_wp2
    go_loopg [14, 15] L.length (fun gg2 s14 s15 wr2 => ∃ (j : Nat) (out : ByteArray), s14 = .string out ∧ s15 = .int .i64 j ∧ j ≤ L.length ∧ L.length - j ≤ gg2 ∧ Aside (out = ⟨(logS cm (L.take j)).toArray⟩) ∧ Aside (Below wq.heap.size wq wr2))
    case atStart => exact ⟨0, ⟨#[]⟩, rfl, rfl, Nat.zero_le _, by omega, rfl, Below.refl _ _⟩
    case round =>
     rename World => wp
     obtain ⟨j, out, rfl, rfl, hj, hgg2, HO, BP⟩ := hrel
     have B0P := Lib.hid (B0.out.trans (BP.out.mono B0.out.size))
     by_cases hjl : j < L.length
     · have hjz : (0 : Int) ≤ (j : Int) := Int.natCast_nonneg j
       have hjli : (j : Int) < (L.length : Int) := by omega
       obtain ⟨ado, hA, q0⟩ := Kd.at_string (Kd.C_below CL.out BP.out) (j : Int) hjz hjli
       subst hA
       rw [rdS, Int.toNat_natCast] at q0
       have hmem : L.getD j ByteArray.empty ∈ X := by
        have h1 : L.getD j ByteArray.empty ∈ L := by
         rw [List.getD_eq_getElem?_getD, List.getElem?_eq_getElem hjl, Option.getD_some]
         exact List.getElem_mem hjl
        rw [← HLX.out] at h1 ⊢
        exact (ord_perm tm X).mem_iff.1 h1
       have hstp := logS_step cm L j hjl
       have hle := logS_le cm L (j + 1)
       have hfit := HFIT.out tm HTM.out
       rw [HLX.out] at hfit
       have hdig := HDIG.out _ hmem
       generalize L.getD j ByteArray.empty = x at q0 hstp hdig
       have hline : lineS cm x = ((((x ++ (⟨#[32]⟩ : ByteArray)) ++ stI (cm x).2.2.1) ++ (⟨#[32]⟩ : ByteArray)) ++ (cm x).2.2.2.1) ++ (⟨#[10]⟩ : ByteArray) := rfl
       rw [hline] at hstp
       have HCX := Lib.hid (HCM.out x wp B0P.out)
       generalize cm x = y at HCX hstp hdig
       obtain ⟨y1, ps, y3, y4, y5⟩ := y
       simp only at HCX hstp hdig
       generalize stI y3 = ts at hstp hdig
       have HD := Lib.hid (fun W => spec_l3Digits.calls k y3 ts W hdig)
       have hout : (logS cm (L.take j)).length = out.size := by
        rw [HO.out]
        show _ = ((logS cm (L.take j)).toArray).size
        rw [List.size_toArray]
       have hsum : (logS cm (L.take (j + 1))).length = out.size + (x.size + 1 + ts.size + 1 + y4.size + 1) := by
        rw [hstp, List.length_append, hout]
        congr 1
        rw [Array.length_toList]
        show ByteArray.size _ = _
        simp only [ByteArray.size_append]
        rfl
       have hnew : ((((((out ++ x) ++ (⟨#[32]⟩ : ByteArray)) ++ ts) ++ (⟨#[32]⟩ : ByteArray)) ++ y4) ++ (⟨#[10]⟩ : ByteArray)) = ⟨(logS cm (L.take (j + 1))).toArray⟩ := by
        rw [hstp, HO.out]
        refine YtpnoghcdfbmpoaaGreatDoorX.toList_inj ?_
        rw [toList_data, toList_data]
        simp [ByteArray.append_assoc, ByteArray.data_append]
       have HNEW := Lib.hid hnew
       have z1 : (9223372036854775807 < out.size + x.size) = False := eq_false zq7
       have z2 : (9223372036854775807 < out.size + x.size + 1) = False := eq_false zq7
       have z3 : (9223372036854775807 < out.size + x.size + 1 + ts.size) = False := eq_false zq7
       have z4 : (9223372036854775807 < out.size + x.size + 1 + ts.size + 1) = False := eq_false zq7
       have z5 : (9223372036854775807 < out.size + x.size + 1 + ts.size + 1 + y4.size) = False := eq_false zq7
       have z6 : (9223372036854775807 < out.size + x.size + 1 + ts.size + 1 + y4.size + 1) = False := eq_false zq7
       clear hmem hstp hle hfit hdig hline hout hsum hnew
       go_wp2_with (first
        | (go_at_call 40; (with_reducible refine HCX.out.mono ?_); rintro e w6 ⟨v6, rfl, hoo_, hbb_⟩; obtain ⟨A6, c6, rfl⟩ := Kd.R_slice hoo_; have B6 := Lib.hid hbb_; clear hoo_ hbb_)
        | ((with_reducible refine gate_dst (N := 16) rfl ?_); refine box_event ?hg (N := 16) ?hd (cs := #[.string (⟨#[]⟩ : ByteArray), .slice none 0 0, .int .i64 0, .string (⟨#[]⟩ : ByteArray)]) (t := 60) ?hr ?_; (case hd => rfl); (case hg => rfl); (case hr => first | (go_simp; done) | (go_simp; rfl)); intro gb hgb w7 hbox hb4; have HBX := Lib.hid hbox; have B4 := Lib.hid hb4; have HGB := Lib.hid hgb; have y0 := (blk_cell hbox 0).trans rfl; have y1' := (blk_cell hbox 1).trans rfl; have y2 := (blk_cell hbox 2).trans rfl; have y3' := (blk_cell hbox 3).trans rfl; have f0 := blk_frozen hbox 0; have f1 := blk_frozen hbox 1; have f2 := blk_frozen hbox 2; have f3 := blk_frozen hbox 3; clear hbox hb4 hgb))
       have hgb : w6.heap.size ≤ gb := Nat.le_of_eq HGB.out.symm
       have hbk : ((((w7.setCell ⟨gb, 0, none⟩ (.string y1)).setCell ⟨gb, 1, none⟩ (.slice A6 ps.length c6)).setCell ⟨gb, 2, none⟩ (.int .i64 y3)).setCell ⟨gb, 3, none⟩ (.string y4)).heap[gb]? = some (.cells #[.string y1, .slice A6 ps.length c6, .int .i64 y3, .string y4] 60 (0, 0)) := blk_put (cs := #[.string y1, .slice A6 ps.length c6, .int .i64 y3, .string ⟨#[]⟩]) (blk_put (cs := #[.string y1, .slice A6 ps.length c6, .int .i64 0, .string ⟨#[]⟩]) (blk_put (cs := #[.string y1, .slice none 0 0, .int .i64 0, .string ⟨#[]⟩]) (blk_put (cs := #[.string ⟨#[]⟩, .slice none 0 0, .int .i64 0, .string ⟨#[]⟩]) HBX.out 0 (.string y1) rfl) 1 (.slice A6 ps.length c6) rfl) 2 (.int .i64 y3) rfl) 3 (.string y4) rfl
       have hb8 : Below wp.heap.size wp ((((w7.setCell ⟨gb, 0, none⟩ (.string y1)).setCell ⟨gb, 1, none⟩ (.slice A6 ps.length c6)).setCell ⟨gb, 2, none⟩ (.int .i64 y3)).setCell ⟨gb, 3, none⟩ (.string y4)) := B6.out.trans ((below_set (below_set (below_set (below_set B4.out hgb) hgb) hgb) hgb).mono B6.out.size)
       generalize ((((w7.setCell ⟨gb, 0, none⟩ (.string y1)).setCell ⟨gb, 1, none⟩ (.slice A6 ps.length c6)).setCell ⟨gb, 2, none⟩ (.int .i64 y3)).setCell ⟨gb, 3, none⟩ (.string y4)) = w8 at hbk hb8 ⊢
       have HBK := Lib.hid hbk
       have B8 := Lib.hid hb8
       have hK0 : w8.drew.cell? (ado.add j) = some (.string x) ∧ w8.drew.cell? ⟨gb, 2, none⟩ = some (.int .i64 y3) ∧ w8.drew.cell? ⟨gb, 3, none⟩ = some (.string y4) := ⟨kc2 q0 (below_drew1 hb8), (blk_cell hbk 2).trans rfl, (blk_cell hbk 3).trans rfl⟩
       clear y0 y1' y2 y3' f0 f1 f2 f3 HBX B4 HGB B6 hbk hb8 hgb q0 HCX
       go_region_held3 (fun w' => w'.cell? (ado.add j) = some (.string x) ∧ w'.cell? ⟨gb, 2, none⟩ = some (.int .i64 y3) ∧ w'.cell? ⟨gb, 3, none⟩ = some (.string y4)) ((first | exact hK0 | exact hK1))
        ((first | (go_at_call 49; (with_reducible refine (HD.out _).mono ?_); rintro e w9 ⟨rfl, hb9⟩; have b9 := (below_drew1 (Below.refl w8.heap.size w8)).trans hb9; have hK1 : w9.cell? (ado.add j) = some (.string x) ∧ w9.cell? ⟨gb, 2, none⟩ = some (.int .i64 y3) ∧ w9.cell? ⟨gb, 3, none⟩ = some (.string y4) := ⟨kc2 hK0.1 hb9, kc2 hK0.2.1 hb9, kc2 hK0.2.2 hb9⟩)))
       all_goals (
        have B9 := Lib.hid (B8.out.trans (b9.mono B8.out.size))
        clear hK0 hK1 hb9 b9 z1 z2 z3 z4 z5 z6
        go_wp2
        all_goals (
         go_roundg (L.length - (j + 1))
         case measure => omega
         case rel => exact ⟨j + 1, _, rfl, by go_num, by omega, by omega, HNEW.out, BP.out.trans (B9.out.mono BP.out.size)⟩))
     · have hjli : ¬ (j : Int) < (L.length : Int) := by omega
       have hlt : L.take j = L := List.take_of_length_le zq7
       have ho := HO.out
       rw [hlt] at ho
       have HOO := Lib.hid ho
       clear ho hlt HO
       have b1p := BQ.out.trans (BP.out.mono BQ.out.size)
       have hrr := blk_below HRB.out b1p
       have z3 : wp.cell? ⟨gr, 0, none⟩ = some (.int .i64 0) := (blk_cell hrr 0).trans rfl
       have z4 : wp.cell? ⟨gr, 1, none⟩ = some (.string ⟨#[]⟩) := (blk_cell hrr 1).trans rfl
       have fa := blk_frozen hrr 0
       have fb := blk_frozen hrr 1
       have R9 := Lib.hid hrr
       have B1P := Lib.hid b1p
       clear hrr b1p
       go_wp2
       have hgr : w.heap.size ≤ gr := Nat.le_of_eq HGR.out.symm
       refine bodyPost_ret (results_cell_row rfl _ _ gr 43 #[.int .i64 0, .string out] (0, 0) _ rfl (blk_set (blk_set R9.out 0 (.int .i64 0)) 1 (.string out)) Tryz.underlying43 rfl zq6) rfl ?_
       refine ⟨?_, below_set (below_set (HB1.out.trans (B1P.out.mono HB1.out.size)) hgr) hgr⟩
       rw [HOO.out, ← HLX.out, HTM2.out]
end Go.Proofs.YtpnoghcdfbmpoaaGreatDoor.PX.X

namespace Go.Proofs.YtpnoghcdfbmpoaaGreatDoor.PX.X
open Go Go.RowKit Go.Lib Go.Proofs.YtpnoghcdfbmpoaaGreatDoorW.PrintWords Go.Proofs.YtpnoghcdfbmpoaaGreatDoor.PX
set_option linter.unusedVariables false
set_option linter.unusedSimpArgs false
set_option maxHeartbeats 4000000 in
set_option maxRecDepth 100000 in
theorem logS_store (k : Nat) (A0 : Option Addr) (c0 : Nat) (l0 : List S50) (id : ByteArray) (st : Int) (w : World) (hr0 : Kd.C k50 w A0 l0.length l0) (hc0 : l0.length ≤ c0) (hst : spec_StoreFault.f k l0 = some st) (hz : ¬ st = 0) :
 Calls Tryz.prog 24 #[.slice A0 l0.length c0, .string id] w fun e w' => e = .returned (.agg #[.int .i64 st, .string ⟨#[]⟩]) ∧ Below w.heap.size w w' := by
 have HST := Lib.hid (fun (W : World) (hw : Below w.heap.size w W) => spec_StoreFault.calls k A0 c0 l0 st W (Kd.C_below hr0 hw) hc0 hst)
 have z1 : (st == 0) = false := beq_eq_false_iff_ne.mpr hz
 have z2 : (st != 0) = true := bne_iff_ne.mpr hz
 clear hr0 hc0 hst hz
 go_enter Tryz.func24, Tryz.ntmps24
 go_wp2_with (first
  | ((with_reducible refine gate_dst (N := 4) rfl ?_); refine box_event ?hg (N := 4) ?hd (cs := #[.int .i64 0, .string (⟨#[]⟩ : ByteArray)]) (t := 43) ?hr ?_; (case hd => rfl); (case hg => rfl); (case hr => first | (go_simp; done) | (go_simp; rfl)); intro gr hgr w1 hbox hb1; have HRB := Lib.hid hbox; have HB1 := Lib.hid hb1; have HGR := Lib.hid hgr; clear hbox hb1 hgr)
  | (go_at_call 28; (with_reducible refine (HST.out w1 HB1.out).mono ?_); rintro e w2 ⟨rfl, hb2⟩; have hrr := blk_below HRB.out hb2; have z3 : w2.cell? ⟨gr, 0, none⟩ = some (.int .i64 0) := (blk_cell hrr 0).trans rfl; have z4 : w2.cell? ⟨gr, 1, none⟩ = some (.string ⟨#[]⟩) := (blk_cell hrr 1).trans rfl; have f0 := blk_frozen hrr 0; have f1 := blk_frozen hrr 1; have R9 := Lib.hid hrr; have HB2 := Lib.hid hb2; clear hb2 hrr))
 have hgr : w.heap.size ≤ gr := Nat.le_of_eq HGR.out.symm
 refine bodyPost_ret (results_cell_row rfl _ _ gr 43 #[.int .i64 st, .string ⟨#[]⟩] (0, 0) _ rfl (blk_set (blk_set R9.out 0 (.int .i64 st)) 1 (.string ⟨#[]⟩)) Tryz.underlying43 rfl zq6) rfl ?_
 exact ⟨rfl, below_set (below_set (HB1.out.trans (HB2.out.mono HB1.out.size)) hgr) hgr⟩
set_option maxHeartbeats 4000000 in
set_option maxRecDepth 100000 in
theorem logS_hist (k : Nat) (A0 : Option Addr) (c0 : Nat) (l0 : List S50) (id : ByteArray) (X : List ByteArray) (c : Int) (w : World) (hr0 : Kd.C k50 w A0 l0.length l0) (hc0 : l0.length ≤ c0) (hst : spec_StoreFault.f k l0 = some 0) (hx : spec_l9History.f k l0 id = some (X, c)) (hz : ¬ c = 0) :
 Calls Tryz.prog 24 #[.slice A0 l0.length c0, .string id] w fun e w' => e = .returned (.agg #[.int .i64 c, .string ⟨#[]⟩]) ∧ Below w.heap.size w w' := by
 have HST := Lib.hid (fun (W : World) (hw : Below w.heap.size w W) => spec_StoreFault.calls k A0 c0 l0 0 W (Kd.C_below hr0 hw) hc0 hst)
 have HX := Lib.hid (fun (W : World) (hw : Below w.heap.size w W) => spec_l9History.calls k A0 c0 l0 id X c W (Kd.C_below hr0 hw) hc0 hx)
 have z1 : (c == 0) = false := beq_eq_false_iff_ne.mpr hz
 have z2 : (c != 0) = true := bne_iff_ne.mpr hz
 clear hr0 hc0 hst hz hx
 go_enter Tryz.func24, Tryz.ntmps24
 go_wp2_with (first
  | ((with_reducible refine gate_dst (N := 4) rfl ?_); refine box_event ?hg (N := 4) ?hd (cs := #[.int .i64 0, .string (⟨#[]⟩ : ByteArray)]) (t := 43) ?hr ?_; (case hd => rfl); (case hg => rfl); (case hr => first | (go_simp; done) | (go_simp; rfl)); intro gr hgr w1 hbox hb1; have HRB := Lib.hid hbox; have HB1 := Lib.hid hb1; have HGR := Lib.hid hgr; clear hbox hb1 hgr)
  | (go_at_call 28; (with_reducible refine (HST.out w1 HB1.out).mono ?_); rintro e w2 ⟨rfl, hb2⟩; have HB2 := Lib.hid hb2; have B2 := Lib.hid (HB1.out.trans (hb2.mono HB1.out.size)); clear hb2)
  | (go_at_call 34; (with_reducible refine (HX.out w2 B2.out).mono ?_); rintro e w3 ⟨v3, rfl, hoo_, hbb_⟩; obtain ⟨A3, c3, rfl⟩ := Kd.R_slice hoo_; have hrr := blk_below (blk_below HRB.out HB2.out) hbb_; have z3 : w3.cell? ⟨gr, 0, none⟩ = some (.int .i64 0) := (blk_cell hrr 0).trans rfl; have z4 : w3.cell? ⟨gr, 1, none⟩ = some (.string ⟨#[]⟩) := (blk_cell hrr 1).trans rfl; have f0 := blk_frozen hrr 0; have f1 := blk_frozen hrr 1; have R9 := Lib.hid hrr; have B3 := Lib.hid (B2.out.trans (hbb_.mono B2.out.size)); clear hoo_ hbb_ hrr))
 have hgr : w.heap.size ≤ gr := Nat.le_of_eq HGR.out.symm
 refine bodyPost_ret (results_cell_row rfl _ _ gr 43 #[.int .i64 c, .string ⟨#[]⟩] (0, 0) _ rfl (blk_set (blk_set R9.out 0 (.int .i64 c)) 1 (.string ⟨#[]⟩)) Tryz.underlying43 rfl zq6) rfl ?_
 exact ⟨rfl, below_set (below_set B3.out hgr) hgr⟩
end Go.Proofs.YtpnoghcdfbmpoaaGreatDoor.PX.X

namespace Go.Proofs.YtpnoghcdfbmpoaaGreatDoorX
open Go Go.RowKit Go.Proofs.YtpnoghcdfbmpoaaGreatDoorW.PrintWords Go.Proofs.YtpnoghcdfbmpoaaGreatDoor.PX
open Go.Proofs.YtpnoghcdfbmpoaaGreatDoor.PX.X (CmR parsC okO cmI cmI_eq chkC sortP fold_perm lessB coV coOf coOf_step ordR insR atR at_le ord_perm ord_sort bef stI CoL)
set_option linter.unusedVariables false
def histL (l : List IObj) (a : ByteArray) : List ByteArray × Int := (impl_historyOf.f 9000301 l a).getD ([], 5)
theorem histL_all {l : List IObj} (h : okO l) (a : ByteArray) (ha : a.size ≤ 9223372036854775807) : (∀ k, 9000300 < k → impl_historyOf.f k l a = some (histL l a) ∧ spec_l9History.f k l a = some (histL l a)) ∧ (histL l a).1.length ≤ 100 ∧ (histL l a).1.Nodup ∧ (¬ (histL l a).2 = 0 → (histL l a).1 = []) ∧ ∀ x ∈ (histL l a).1, x.size ≤ 9223372036854775807 := by
 obtain ⟨V, h1, h2⟩ := hist_all l h a ha
 have e : histL l a = V := by unfold histL; rw [(h1 9000301 zq7).1]; rfl
 rw [e]
 exact ⟨h1, h2⟩
theorem hist_up {l : List IObj} (h : okO l) (id : ByteArray) (hs : id.size ≤ 1048576) (h0 : (histL l id).2 = 0) : (histL l id).1.Pairwise (fun a b => lessB a b = true) ∧ ∀ x ∈ (histL l id).1, x.size ≤ 1048576 := by
 have hV := ((histL_all h id zq7).1 9000301 zq7).1
 obtain ⟨R, h1, h2, h3, h4⟩ := reached_all l h [id] zq12 (fun x hx => by rw [List.mem_singleton.1 hx]; omega)
 have hp := sort_perm R h1
 have hpw := (fold_perm R [] h1 (fun _ _ h => by cases h) List.Pairwise.nil).2
 generalize histL l id = V at hV h0 ⊢
 unfold impl_historyOf.f at hV
 rw [h3 9000301 zq7, Option.bind_some] at hV
 have e : V.1 = sortP R := by
  by_cases hl : ((sortP R).length : Int) > 100
  · rw [if_pos hl] at hV
    rw [← Option.some.inj hV] at h0
    exact absurd h0 zq9
  · rw [if_neg hl] at hV
    have := hist_l0 l h (sortP R) zq7 (sortP R).length 0 zq7 9000301 zq7
    rw [show impl_historyOf.l0 9000301 l (sortP R) (sortP R) ((sortP R).length : Int) 0 = _ from this] at hV
    by_cases hc : chkC (cmI l) ((sortP R).drop 0) = 0
    · rw [if_pos hc] at hV
      rw [← Option.some.inj hV]
    · rw [if_neg hc] at hV
      rw [← Option.some.inj hV] at h0
      exact absurd h0 hc
 rw [e]
 refine ⟨hpw, fun x hx => ?_⟩
 rcases List.mem_append.1 (h2 x (hp.mem_iff.1 hx)) with h5 | h5
 · rw [List.mem_singleton.1 h5]
   exact hs
 · obtain ⟨o, _, h5⟩ := List.mem_flatMap.1 h5
   have := com_five l o.f0 x h5
   omega
theorem com_time (l : List IObj) (x : ByteArray) : ∃ u : Nat, (comV l x).2.2.1 = (u : Int) ∧ u ≤ 1000000000 ∧ (comV l x).2.2.2.1.size ≤ 60 := by
 unfold comV
 cases getV l 3 x with
 | none => exact ⟨0, rfl, by omega, Nat.zero_le _⟩
 | some D =>
   simp only
   split
   · rename_i h
     obtain ⟨_, u, hr, _⟩ := h
     exact ⟨u, hr.time, hr.max, hr.note.2⟩
   · exact ⟨0, rfl, by omega, Nat.zero_le _⟩
theorem coV_mem (cm : ByteArray → CmR) : ∀ (M : CoL) (x : ByteArray), (∀ p ∈ M, p.2 = ((cm p.1).2.2.1, (cm p.1).2.2.2.1)) → x ∈ M.map Prod.fst → coV M x = ((cm x).2.2.1, (cm x).2.2.2.1)
 | p :: M, x, h, hx => by
   unfold coV
   by_cases e : p.1 = x
   · rw [if_pos e, h p List.mem_cons_self, e]
   · rw [if_neg e]
     refine coV_mem cm M x (fun q hq => h q (List.mem_cons_of_mem _ hq)) ?_
     rcases List.mem_cons.1 hx with hx | hx
     · exact absurd hx.symm e
     · exact hx
theorem coV_none : ∀ (M : CoL) (x : ByteArray), x ∉ M.map Prod.fst → coV M x = (0, ⟨#[]⟩)
 | [], x, _ => rfl
 | p :: M, x, hx => by
   unfold coV
   rw [if_neg (fun e : p.1 = x => hx (by rw [← e]; exact List.mem_cons_self))]
   exact coV_none M x (fun h => hx (List.mem_cons_of_mem _ h))
theorem coOf_keys (cm : ByteArray → CmR) (X : List ByteArray) : (∀ p ∈ coOf cm X, p.2 = ((cm p.1).2.2.1, (cm p.1).2.2.2.1)) ∧ ∀ x, x ∈ (coOf cm X).map Prod.fst ↔ x ∈ X := by
 unfold coOf
 constructor
 · intro p hp
   obtain ⟨x, _, rfl⟩ := List.mem_map.1 (List.mem_reverse.1 hp)
   rfl
 · intro x
   rw [List.map_reverse, List.mem_reverse, List.map_map]
   constructor
   · intro h
     obtain ⟨y, hy, rfl⟩ := List.mem_map.1 h
     exact hy
   · intro h
     exact List.mem_map.2 ⟨x, h, rfl⟩
theorem coOf_val (cm : ByteArray → CmR) (X : List ByteArray) (x : ByteArray) (hx : x ∈ X) : coV (coOf cm X) x = ((cm x).2.2.1, (cm x).2.2.2.1) := coV_mem cm _ x (coOf_keys cm X).1 (((coOf_keys cm X).2 x).2 hx)
theorem coOf_time (l : List IObj) (X : List ByteArray) (z : ByteArray) : 0 ≤ (coV (coOf (comV l) X) z).1 ∧ (coV (coOf (comV l) X) z).1 ≤ 1000000000 := by
 by_cases h : z ∈ X
 · rw [coOf_val _ X z h]
   obtain ⟨u, h1, h2, _⟩ := com_time l z
   simp only
   omega
 · rw [coV_none _ z (fun q => h (((coOf_keys _ X).2 z).1 q))]
   simp only
   omega
theorem at_congr {tm tm' : ByteArray → Int} (v : Int) (l : List ByteArray) (h : ∀ y ∈ l, tm y = tm' y) : ∀ n, n ≤ l.length → atR tm v l n = atR tm' v l n
 | 0, _ => rfl
 | n + 1, hn => by
   have hm : l.getD n ByteArray.empty ∈ l := by
    rw [List.getD_eq_getElem?_getD, List.getElem?_eq_getElem zq7, Option.getD_some]
    exact List.getElem_mem _
   show (if tm (l.getD n ByteArray.empty) < v then atR tm v l n else n + 1) = (if tm' (l.getD n ByteArray.empty) < v then atR tm' v l n else n + 1)
   rw [h _ hm, at_congr v l h n zq7]
theorem ord_congr {tm tm' : ByteArray → Int} : ∀ X : List ByteArray, (∀ y ∈ X, tm y = tm' y) → ordR tm X = ordR tm' X
 | [], _ => rfl
 | x :: X, h => by
   have ih := ord_congr X (fun y hy => h y (List.mem_cons_of_mem _ hy))
   show insR tm x (ordR tm X) = insR tm' x (ordR tm' X)
   rw [ih]
   unfold insR
   rw [h x List.mem_cons_self, at_congr (tm' x) (ordR tm' X) (fun y hy => h y (List.mem_cons_of_mem _ ((ord_perm tm' X).mem_iff.1 hy))) _ (Nat.le_refl _)]
theorem digits_st (u : Nat) (hu : u ≤ 1000000000) (k : Nat) (hk : 20 < k) : spec_l3Digits.f k (u : Int) = some (stI (u : Int)) ∧ (stI (u : Int)).size ≤ 1000000001 := by
 obtain ⟨k, rfl⟩ : ∃ m, k = m + 1 := ⟨k - 1, by omega⟩
 have e : stI (u : Int) = mkB (Lib.decDigits u) := by
  unfold stI mkB
  rw [show Lib.itoa (u : Int) = Lib.decDigits u from Lib.itoa_nonneg u]
 rw [e, mkB_len]
 have := digits_le u u (Nat.le_refl _)
 exact ⟨spec_digits k u (Nat.lt_of_lt_of_le (show u < 10 ^ 11 by omega) (Nat.pow_le_pow_right zq9 zq7)) zq7, by omega⟩
end Go.Proofs.YtpnoghcdfbmpoaaGreatDoorX

namespace Go.Proofs.YtpnoghcdfbmpoaaGreatDoor.PX.X
open Go Go.RowKit Go.Lib Go.Proofs.YtpnoghcdfbmpoaaGreatDoorW.PrintWords Go.Proofs.YtpnoghcdfbmpoaaGreatDoor.PX Go.Proofs.YtpnoghcdfbmpoaaGreatDoorX
set_option linter.unusedVariables false
def logT (l : List IObj) (id : ByteArray) : ByteArray := ⟨(logS (cmI l) (ordR (fun z => (cmI l z).2.2.1) (histL l id).1)).toArray⟩
def logW (l : List IObj) (id : ByteArray) : Int × ByteArray := if (histL l id).2 = 0 then (0, logT l id) else ((histL l id).2, ⟨#[]⟩)
def logIF (k : Nat) (l : List IObj) (id : ByteArray) : Option (Int × ByteArray) := (impl_StoreFault.f k l).bind fun st => if st = 0 then (if 9000300 < k ∧ okO l ∧ id.size ≤ 1048576 then some (logW l id) else none) else some (st, ⟨#[]⟩)
def logSF (k : Nat) (l : List IObj) (id : ByteArray) : Option (Int × ByteArray) := (spec_StoreFault.f k l).bind fun st => if st = 0 then (if 9000300 < k ∧ okO l ∧ id.size ≤ 1048576 then some (logW l id) else none) else some (st, ⟨#[]⟩)
theorem flatB_len (f : ByteArray → List UInt8) (B : Nat) : ∀ L : List ByteArray, (∀ x ∈ L, (f x).length ≤ B) → (L.flatMap f).length ≤ L.length * B
 | [], _ => by simp
 | x :: L, h => by
   rw [List.flatMap_cons, List.length_append, List.length_cons, Nat.add_mul, Nat.one_mul]
   have h1 := h x List.mem_cons_self
   have h2 := flatB_len f B L (fun y hy => h y (List.mem_cons_of_mem _ hy))
   omega
theorem logM_eq (cm : ByteArray → CmR) (X Y : List ByteArray) (h : ∀ y ∈ Y, y ∈ X) : logM (coOf cm X) Y = logS cm Y := by
 induction Y with
 | nil => rfl
 | cons y Y ih =>
   have ih2 := ih (fun z hz => h z (List.mem_cons_of_mem _ hz))
   have e : lineM (coOf cm X) y = lineS cm y := by
    unfold lineM lineS
    rw [coOf_val cm X y (h y List.mem_cons_self)]
   unfold logM logS at ih2 ⊢
   rw [List.flatMap_cons, List.flatMap_cons, e, ih2]
theorem log_fit {l : List IObj} (h : okO l) (id : ByteArray) (hs : id.size ≤ 1048576) (h0 : (histL l id).2 = 0) (tm : ByteArray → Int) : (logS (cmI l) (ordR tm (histL l id).1)).length ≤ 140737488355328 := by
 obtain ⟨_, q2, _, _, _⟩ := histL_all h id zq7
 obtain ⟨_, hsz⟩ := hist_up h id hs h0
 have hp := ord_perm tm (histL l id).1
 have hl := hp.length_eq
 have := flatB_len (fun x => (lineS (cmI l) x).data.toList) 1100000000 (ordR tm (histL l id).1) (fun x hx => by
  have hx2 := hsz x (hp.mem_iff.1 hx)
  obtain ⟨u, h1, h2, h3⟩ := com_time l x
  have h4 := (digits_st u h2 30 zq7).2
  show (lineS (cmI l) x).data.toList.length ≤ _
  rw [Array.length_toList]
  show (lineS (cmI l) x).size ≤ _
  unfold lineS
  rw [cmI_eq h, h1]
  simp only [ByteArray.size_append]
  have z1 : (⟨#[32]⟩ : ByteArray).size = 1 := rfl
  have z2 : (⟨#[10]⟩ : ByteArray).size = 1 := rfl
  omega)
 unfold logS
 omega
theorem logIF_calls (k : Nat) (A0 : Option Addr) (c0 : Nat) (l0 : List S50) (id : ByteArray) (r1 : Int) (r2 : ByteArray) (w : World) (hr0 : Kd.C k50 w A0 l0.length l0) (hc0 : l0.length ≤ c0) (hG : Gt w) (h : logIF k l0 id = some (r1, r2)) :
 Calls Tryz.prog 25 #[.slice A0 l0.length c0, .string id] w fun e w' => e = .returned (.agg #[.int .i64 r1, .string r2]) ∧ Below w.heap.size w w' := by
 unfold logIF at h
 obtain ⟨st, hst, h⟩ := Option.bind_eq_some_iff.mp h
 by_cases hz : st = 0
 · rw [if_pos hz] at h
   subst hz
   by_cases hk : 9000300 < k ∧ okO l0 ∧ id.size ≤ 1048576
   · rw [if_pos hk] at h
     obtain ⟨hk1, hok, hs⟩ := hk
     obtain ⟨q1, q2, q3, q4, q5⟩ := histL_all hok id zq7
     have hx := (q1 k hk1).1
     have hcm : cmI l0 = comV l0 := funext (cmI_eq hok)
     have hW := Option.some.inj h
     unfold logW at hW
     by_cases h0 : (histL l0 id).2 = 0
     · rw [if_pos h0] at hW
       obtain ⟨h1, h2⟩ := Prod.mk.inj hW
       rw [← h1, ← h2]
       have hx0 : impl_historyOf.f k l0 id = some ((histL l0 id).1, 0) := by
        rw [hx]
        exact congrArg some (Prod.ext rfl h0)
       obtain ⟨hup, _⟩ := hist_up hok id hs h0
       have hfit := log_fit hok id hs h0 (fun z => (cmI l0 z).2.2.1)
       have hsub : ∀ y ∈ ordR (fun z => (cmI l0 z).2.2.1) (histL l0 id).1, y ∈ (histL l0 id).1 := fun y hy => (ord_perm _ _).mem_iff.1 hy
       have hY : ((histL l0 id).1.mergeSort fun x y => !bef (fun z => (coV (coOf (cmI l0) (histL l0 id).1) z).1) y x) = ordR (fun z => (cmI l0 z).2.2.1) (histL l0 id).1 :=
        (ord_sort _ _ hup).trans (ord_congr _ (fun y hy => by rw [coOf_val (cmI l0) _ y hy]))
       have key := log_main k A0 c0 l0 id (histL l0 id).1 (cmI l0) w hr0 hc0 hG hst hx0 zq7 q5 (cmI_all hok zq7) (fun z => by rw [hcm]; exact coOf_time l0 _ z) _ hY (by rw [logM_eq _ _ _ hsub]; exact hfit)
       rw [logM_eq _ _ _ hsub] at key
       exact key
     · rw [if_neg h0] at hW
       obtain ⟨h1, h2⟩ := Prod.mk.inj hW
       rw [← h1, ← h2]
       exact log_hist k A0 c0 l0 id (histL l0 id).1 (histL l0 id).2 w hr0 hc0 hG hst hx h0
   · rw [if_neg hk] at h
     cases h
 · rw [if_neg hz] at h
   obtain ⟨h1, h2⟩ := Prod.mk.inj (Option.some.inj h)
   rw [← h1, ← h2]
   exact log_store k A0 c0 l0 id st w hr0 hc0 hG hst hz
theorem logSF_calls (k : Nat) (A0 : Option Addr) (c0 : Nat) (l0 : List S50) (id : ByteArray) (r1 : Int) (r2 : ByteArray) (w : World) (hr0 : Kd.C k50 w A0 l0.length l0) (hc0 : l0.length ≤ c0) (h : logSF k l0 id = some (r1, r2)) :
 Calls Tryz.prog 24 #[.slice A0 l0.length c0, .string id] w fun e w' => e = .returned (.agg #[.int .i64 r1, .string r2]) ∧ Below w.heap.size w w' := by
 unfold logSF at h
 obtain ⟨st, hst, h⟩ := Option.bind_eq_some_iff.mp h
 by_cases hz : st = 0
 · rw [if_pos hz] at h
   subst hz
   by_cases hk : 9000300 < k ∧ okO l0 ∧ id.size ≤ 1048576
   · rw [if_pos hk] at h
     obtain ⟨hk1, hok, hs⟩ := hk
     obtain ⟨q1, q2, q3, q4, q5⟩ := histL_all hok id zq7
     have hx := (q1 k hk1).2
     have hcm : cmI l0 = comV l0 := funext (cmI_eq hok)
     have hW := Option.some.inj h
     unfold logW at hW
     by_cases h0 : (histL l0 id).2 = 0
     · rw [if_pos h0] at hW
       obtain ⟨h1, h2⟩ := Prod.mk.inj hW
       rw [← h1, ← h2]
       have hx0 : spec_l9History.f k l0 id = some ((histL l0 id).1, 0) := by
        rw [hx]
        exact congrArg some (Prod.ext rfl h0)
       exact logS_main k A0 c0 l0 id (histL l0 id).1 (cmI l0) w hr0 hc0 hst hx0 zq7 (fun x => by rw [cmS_all hok zq7, cmS_eq hok, cmI_eq hok]) (fun x _ => by
        obtain ⟨u, e1, e2, _⟩ := com_time l0 x
        rw [hcm, e1]
        exact (digits_st u e2 k zq7).1) (fun tm _ => log_fit hok id hs h0 tm)
     · rw [if_neg h0] at hW
       obtain ⟨h1, h2⟩ := Prod.mk.inj hW
       rw [← h1, ← h2]
       exact logS_hist k A0 c0 l0 id (histL l0 id).1 (histL l0 id).2 w hr0 hc0 hst hx h0
   · rw [if_neg hk] at h
     cases h
 · rw [if_neg hz] at h
   obtain ⟨h1, h2⟩ := Prod.mk.inj (Option.some.inj h)
   rw [← h1, ← h2]
   exact logS_store k A0 c0 l0 id st w hr0 hc0 hst hz
end Go.Proofs.YtpnoghcdfbmpoaaGreatDoor.PX.X

namespace Go.Proofs.YtpnoghcdfbmpoaaGreatDoor.PX
open Go.RowKit Go.Proofs.YtpnoghcdfbmpoaaGreatDoorW.PrintWords Go.Proofs.YtpnoghcdfbmpoaaGreatDoorW.PrintLast Go.Proofs.YtpnoghcdfbmpoaaGreatDoorW.PrintMore
attribute [local go_sem] max2_int min2_int max_two min_two max_three min_three max_four min_four   -- for this text's walks alone
set_option linter.unusedVariables false
set_option linter.unusedSimpArgs false
def spec_LogText.f (k : Nat) (l0 : List (S50)) (a1 : ByteArray) : Option (Int × ByteArray) := X.logSF k l0 a1
theorem spec_LogText.calls (k : Nat) (A0 : Option Addr) (c0 : Nat) (l0 : List (S50)) (a1 : ByteArray) (r1 : Int) (r2 : ByteArray) (w : World) (hr0 : Kd.C k50 w A0 l0.length l0) (hc0 : l0.length ≤ c0) (h : spec_LogText.f k l0 a1 = some (r1, r2)) :
  Calls Tryz.prog 24 #[.slice A0 l0.length c0, .string a1] w fun e w' => e = .returned (.agg #[.int .i64 r1, .string r2]) ∧ Below w.heap.size w w' := X.logSF_calls k A0 c0 l0 a1 r1 r2 w hr0 hc0 h
def impl_LogText.f (k : Nat) (l0 : List (S50)) (a1 : ByteArray) : Option (Int × ByteArray) := X.logIF k l0 a1
theorem impl_LogText.calls (k : Nat) (A0 : Option Addr) (c0 : Nat) (l0 : List (S50)) (a1 : ByteArray) (r1 : Int) (r2 : ByteArray) (w : World) (hr0 : Kd.C k50 w A0 l0.length l0) (hc0 : l0.length ≤ c0) (hG : Gt w) (h : impl_LogText.f k l0 a1 = some (r1, r2)) :
  Calls Tryz.prog 25 #[.slice A0 l0.length c0, .string a1] w fun e w' => e = .returned (.agg #[.int .i64 r1, .string r2]) ∧ Below w.heap.size w w' := X.logIF_calls k A0 c0 l0 a1 r1 r2 w hr0 hc0 hG h
def laws_FnExactLogText.f (k : Nat) (l0 : List (S48)) (a1 : ByteArray) : Option (Bool) := if (a1.size : Int) > 1048576 then (some true) else ((laws_szObjectS.f k l0 1048576).bind fun t702 => (if t702 < 0 then (some true) else ((laws_toObjectS.f k l0).bind fun t703 => ((spec_LogText.f k t703 a1).bind fun bt706 => ((laws_toObjectS.f k l0).bind fun t709 => ((impl_LogText.f k t709 a1).bind fun bt712 => ((laws_eqTextResult.f bt712.1 bt712.2 bt706.1 bt706.2).bind fun t715 => (if t715 = true then ((laws_toObjectS.f k l0).bind fun t716 => ((laws_eqObjectS.f k t709 t716).bind fun t719 => (if t719 = true then (some true) else (some false)))) else (some false)))))))))
set_option maxHeartbeats 8000000 in
set_option maxRecDepth 100000 in
theorem laws_FnExactLogText.calls (k : Nat) (A0 : Option Addr) (c0 : Nat) (l0 : List (S48)) (a1 : ByteArray) (r : Bool) (w : World) (hr0 : Kd.C k48 w A0 l0.length l0) (hc0 : l0.length ≤ c0) (hG : Gt w) (h : laws_FnExactLogText.f k l0 a1 = some r) (hT_ : r = true := by rfl) :
  Calls Tryz.prog 7 #[.slice A0 l0.length c0, .string a1] w fun e w' => e = .returned (.bool r) ∧ Below w.heap.size w w' := by
 have HG := zK hG
 clear hG
 have hu43 := Tryz.underlying43
 have HR0 := zK hr0
 have HC0 := zK hc0
 clear hr0 hc0
 have HB := zK (Below.refl w.heap.size w)
 have H : (if (a1.size : Int) > 1048576 then (some true) else ((laws_szObjectS.f k l0 1048576).bind fun t702 => (if t702 < 0 then (some true) else ((laws_toObjectS.f k l0).bind fun t703 => ((spec_LogText.f k t703 a1).bind fun bt706 => ((laws_toObjectS.f k l0).bind fun t709 => ((impl_LogText.f k t709 a1).bind fun bt712 => ((laws_eqTextResult.f bt712.1 bt712.2 bt706.1 bt706.2).bind fun t715 => (if t715 = true then ((laws_toObjectS.f k l0).bind fun t716 => ((laws_eqObjectS.f k t709 t716).bind fun t719 => (if t719 = true then (some true) else (some false)))) else (some false)))))))))) = some r := h
 clear h
 by_cases c3 : (a1.size : Int) > 1048576
 ·
  rw [if_pos c3] at H
  have c3b0 : decide (1048576 < (a1.size : Int)) = true := decide_eq_true c3
  have c3b1 : decide (1048576 < a1.size) = true := decide_eq_true zq7
  clear c3
  obtain rfl := Option.some.inj H
  go_enter Tryz.func7, Tryz.ntmps7
  go_wp2
  go_ret
  exact ⟨zq3, zq0⟩
 rw [if_neg c3] at H
 have c3b0 : decide (1048576 < (a1.size : Int)) = false := decide_eq_false c3
 have c3b1 : decide (1048576 < a1.size) = false := decide_eq_false zq7
 clear c3
 replace H := Option.bind_eq_some_iff.mp H
 obtain ⟨t702, A40, H⟩ := H
 replace H : (if t702 < 0 then (some true) else ((laws_toObjectS.f k l0).bind fun t703 => ((spec_LogText.f k t703 a1).bind fun bt706 => ((laws_toObjectS.f k l0).bind fun t709 => ((impl_LogText.f k t709 a1).bind fun bt712 => ((laws_eqTextResult.f bt712.1 bt712.2 bt706.1 bt706.2).bind fun t715 => (if t715 = true then ((laws_toObjectS.f k l0).bind fun t716 => ((laws_eqObjectS.f k t709 t716).bind fun t719 => (if t719 = true then (some true) else (some false)))) else (some false)))))))) = some r := H
 have A4 := zK A40
 clear A40
 by_cases c5 : t702 < 0
 ·
  rw [if_pos c5] at H
  have c5b0 : decide (t702 < 0) = true := decide_eq_true c5
  clear c5
  obtain rfl := Option.some.inj H
  go_enter Tryz.func7, Tryz.ntmps7
  go_wp2_with (first | ((with_reducible refine gate_callee (f := 8) rfl ?_); refine goesL_ (some 14) rfl rfl Tryz.func8 zq6 rfl #[.slice A0 l0.length c0, .int .i64 1048576] rfl zq1 ?_; (with_reducible refine (laws_szObjectS.calls k _ _ l0 1048576 t702 _ ?side1 ?side2 A4.out).mono ?_); (case side1 => repeat (first | exact HR0.out | (with_reducible refine Kd.C_alloc ?_ _) | (with_reducible refine Kd.C_drewN ?_ _) | (with_reducible refine Kd.C_drew ?_))); (case side2 => exact HC0.out); rintro e w6 ⟨rfl, hb⟩; refine ⟨_, rfl, ?_⟩; have n0_ := zK (below_step zq0 hb); clear HB; have HB := n0_; clear n0_; (try clear hb); (try clear hb2); (try clear hk); (try clear hi)))
  go_ret
  exact ⟨zq3, zq0⟩
 rw [if_neg c5] at H
 have c5b0 : decide (t702 < 0) = false := decide_eq_false c5
 clear c5
 replace H := Option.bind_eq_some_iff.mp H
 obtain ⟨t703, A70, H⟩ := H
 replace H : ((spec_LogText.f k t703 a1).bind fun bt706 => ((laws_toObjectS.f k l0).bind fun t709 => ((impl_LogText.f k t709 a1).bind fun bt712 => ((laws_eqTextResult.f bt712.1 bt712.2 bt706.1 bt706.2).bind fun t715 => (if t715 = true then ((laws_toObjectS.f k l0).bind fun t716 => ((laws_eqObjectS.f k t709 t716).bind fun t719 => (if t719 = true then (some true) else (some false)))) else (some false)))))) = some r := H
 have A7 := zK A70
 clear A70
 replace H := Option.bind_eq_some_iff.mp H
 obtain ⟨⟨t706, t707⟩, A80, H⟩ := H
 replace H : ((laws_toObjectS.f k l0).bind fun t709 => ((impl_LogText.f k t709 a1).bind fun bt712 => ((laws_eqTextResult.f bt712.1 bt712.2 t706 t707).bind fun t715 => (if t715 = true then ((laws_toObjectS.f k l0).bind fun t716 => ((laws_eqObjectS.f k t709 t716).bind fun t719 => (if t719 = true then (some true) else (some false)))) else (some false))))) = some r := H
 have A8 := zK A80
 clear A80
 replace H := Option.bind_eq_some_iff.mp H
 obtain ⟨t709, A90, H⟩ := H
 replace H : ((impl_LogText.f k t709 a1).bind fun bt712 => ((laws_eqTextResult.f bt712.1 bt712.2 t706 t707).bind fun t715 => (if t715 = true then ((laws_toObjectS.f k l0).bind fun t716 => ((laws_eqObjectS.f k t709 t716).bind fun t719 => (if t719 = true then (some true) else (some false)))) else (some false)))) = some r := H
 have A9 := zK A90
 clear A90
 replace H := Option.bind_eq_some_iff.mp H
 obtain ⟨⟨t712, t713⟩, A100, H⟩ := H
 replace H : ((laws_eqTextResult.f t712 t713 t706 t707).bind fun t715 => (if t715 = true then ((laws_toObjectS.f k l0).bind fun t716 => ((laws_eqObjectS.f k t709 t716).bind fun t719 => (if t719 = true then (some true) else (some false)))) else (some false))) = some r := H
 have A10 := zK A100
 clear A100
 replace H := Option.bind_eq_some_iff.mp H
 obtain ⟨t715, A110, H⟩ := H
 replace H : (if t715 = true then ((laws_toObjectS.f k l0).bind fun t716 => ((laws_eqObjectS.f k t709 t716).bind fun t719 => (if t719 = true then (some true) else (some false)))) else (some false)) = some r := H
 have A11 := zK A110
 clear A110
 by_cases c12 : t715 = true
 ·
  subst c12
  have H1 : ((laws_toObjectS.f k l0).bind fun t716 => ((laws_eqObjectS.f k t709 t716).bind fun t719 => (if t719 = true then (some true) else (some false)))) = some r := by rw [if_pos rfl] at H; exact H
  clear H
  have H := H1
  clear H1
  replace H := Option.bind_eq_some_iff.mp H
  obtain ⟨t716, A130, H⟩ := H
  replace H : ((laws_eqObjectS.f k t709 t716).bind fun t719 => (if t719 = true then (some true) else (some false))) = some r := H
  have A13 := zK A130
  clear A130
  replace H := Option.bind_eq_some_iff.mp H
  obtain ⟨t719, A140, H⟩ := H
  replace H : (if t719 = true then (some true) else (some false)) = some r := H
  have A14 := zK A140
  clear A140
  by_cases c15 : t719 = true
  ·
   subst c15
   have H1 : (some true) = some r := by rw [if_pos rfl] at H; exact H
   clear H
   have H := H1
   clear H1
   obtain rfl := Option.some.inj H
   go_enter Tryz.func7, Tryz.ntmps7
   go_wp2_with (first | ((with_reducible refine gate_callee (f := 8) rfl ?_); refine goesL_ (some 14) rfl rfl Tryz.func8 zq6 rfl #[.slice A0 l0.length c0, .int .i64 1048576] rfl zq1 ?_; (with_reducible refine (laws_szObjectS.calls k _ _ l0 1048576 t702 _ ?side1 ?side2 A4.out).mono ?_); (case side1 => repeat (first | exact HR0.out | (with_reducible refine Kd.C_alloc ?_ _) | (with_reducible refine Kd.C_drewN ?_ _) | (with_reducible refine Kd.C_drew ?_))); (case side2 => exact HC0.out); rintro e w16 ⟨rfl, hb⟩; refine ⟨_, rfl, ?_⟩; have n0_ := zK (below_step zq0 hb); clear HB; have HB := n0_; clear n0_; (try clear hb); (try clear hb2); (try clear hk); (try clear hi)) | ((with_reducible refine gate_callee (f := 10) rfl ?_); refine goesL_ (some 18) rfl rfl Tryz.func10 zq6 rfl #[.slice A0 l0.length c0] rfl zq1 ?_; (with_reducible refine (laws_toObjectS.calls k _ _ l0 t703 _ ?side1 ?side2 A7.out).mono ?_); (case side1 => repeat (first | exact (Kd.C_below HR0.out HB.out) | (with_reducible refine Kd.C_alloc ?_ _) | (with_reducible refine Kd.C_drewN ?_ _) | (with_reducible refine Kd.C_drew ?_))); (case side2 => exact HC0.out); rintro e w17 ⟨v704, rfl, ho0, hb⟩; refine ⟨_, rfl, ?_⟩; have n0_ := zK (Kd.R_lower ho0 (below_size zq0)); have n1_ := zK (below_step zq0 hb); clear HB; have HO705 := n0_; have HB := n1_; clear n0_ n1_; (try clear hb); (try clear hb2); (try clear hk); (try clear hi); (try clear ho0); obtain ⟨Ao18, co18, eo18⟩ := Kd.R_slice HO705.out; subst eo18) | ((with_reducible refine gate_callee (f := 24) rfl ?_); refine goesL_ (some 20) rfl rfl Tryz.func24 zq6 rfl #[.slice Ao18 t703.length co18, .string a1] rfl zq1 ?_; (with_reducible refine (spec_LogText.calls k _ _ t703 a1 t706 t707 _ ?side1 ?side2 A8.out).mono ?_); (case side1 => repeat (first | exact (Kd.R_reads' HO705.out).2.2 | (with_reducible refine Kd.C_alloc ?_ _) | (with_reducible refine Kd.C_drewN ?_ _) | (with_reducible refine Kd.C_drew ?_))); (case side2 => exact (Kd.R_reads' HO705.out).2.1); rintro e w19 ⟨rfl, hb⟩; refine ⟨_, rfl, ?_⟩; have n0_ := zK (Kd.R_below zq13 hb); have n1_ := zK (below_step zq0 hb); clear HO705; clear HB; have HO705 := n0_; have HB := n1_; clear n0_ n1_; (try clear hb); (try clear hb2); (try clear hk); (try clear hi)) | ((with_reducible refine gate_dst (N := 6) rfl ?_); refine box_event ?hg (N := 6) ?hd (cs := #[.int .i64 0, .string (⟨#[]⟩ : ByteArray)]) (t := 43) ?hr ?_; (case hd => rfl); (case hg => rfl); (case hr => first | (go_simp; done) | (go_simp; rfl)); intro gb708 hg w20 hbox hb; have n0_ := zK (Kd.R_below zq13 hb); have n1_ := zK (below_step zq0 hb); have n2_ := zK (hbox); have n3_ := zK ((by rw [hg]; exact (below_size zq0) : w.heap.size ≤ gb708)); have n4_ := zK ((by rw [hg]; exact (below_size zq0) : w.heap.size ≤ gb708)); clear HO705; clear HB; have HO705 := n0_; have HB := n1_; have BK708 := n2_; have GW708 := n3_; have GE708 := n4_; clear n0_ n1_ n2_ n3_ n4_; clear hb hbox hg; have hcz21_0 : w20.cell? ⟨gb708, 0, none⟩ = some (.int .i64 0) := (blk_cell BK708.out 0).trans rfl; have hcz21_1 : w20.cell? ⟨gb708, 1, none⟩ = some (.string (⟨#[]⟩ : ByteArray)) := (blk_cell BK708.out 1).trans rfl; have hfz21_0 := blk_frozen BK708.out 0; have hfz21_1 := blk_frozen BK708.out 1) | ((with_reducible refine gate_callee (f := 10) rfl ?_); refine goesL_ (some 22) rfl rfl Tryz.func10 zq6 rfl #[.slice A0 l0.length c0] rfl zq1 ?_; (with_reducible refine (laws_toObjectS.calls k _ _ l0 t709 _ ?side1 ?side2 A9.out).mono ?_); (case side1 => exact Kd.C_below HR0.out (by repeat (first | (with_reducible first | exact HB.out | apply zA | apply zN | apply zD | refine below_set ?_ GE708.out) | exact HB.out))); (case side2 => exact HC0.out); rintro e w22 ⟨v710, rfl, ho0, hb⟩; refine ⟨_, rfl, ?_⟩; have n0_ := zK (Kd.R_elder' (by (with_reducible repeat (first | apply zR | apply zV | apply zW)); exact (Kd.R_mono (Kd.R_far (p := ⟨gb708, 1, none⟩) (Kd.R_far (p := ⟨gb708, 0, none⟩) (Kd.R_types HO705.out BK708.out zq9) (fun _ hk => hk.2) (.int .i64 t706)) (fun _ hk => hk.2) (.string t707)) (fun _ h_ => h_.1))) (Kd.R_base ho0) hb); have n1_ := zK (Kd.R_lower (Kd.R_new' ho0 (Kd.R_lt (by (with_reducible repeat (first | apply zR | apply zV | apply zW)); exact (Kd.R_mono (Kd.R_far (p := ⟨gb708, 1, none⟩) (Kd.R_far (p := ⟨gb708, 0, none⟩) (Kd.R_types HO705.out BK708.out zq9) (fun _ hk => hk.2) (.int .i64 t706)) (fun _ hk => hk.2) (.string t707)) (fun _ h_ => h_.1))))) (below_size (by repeat (first | (with_reducible first | exact HB.out | apply zA | apply zN | apply zD | refine below_set ?_ GE708.out) | exact HB.out)))); have n2_ := zK (blk_below (g := gb708) (o := .cells #[.int .i64 t706, .string t707] 43 (0, 0)) (by (with_reducible repeat (first | refine zM ?_ _ | refine zP ?_ | refine zQ ?_ _)); refine blk_put (cs := #[.int .i64 t706, .string (⟨#[]⟩ : ByteArray)]) ?_ 1 _ rfl; (with_reducible repeat (first | refine zM ?_ _ | refine zP ?_ | refine zQ ?_ _)); refine blk_put (cs := #[.int .i64 0, .string (⟨#[]⟩ : ByteArray)]) ?_ 0 _ rfl; (with_reducible repeat (first | refine zM ?_ _ | refine zP ?_ | refine zQ ?_ _)); exact BK708.out) hb); have n3_ := zK (below_step (by repeat (first | (with_reducible first | exact HB.out | apply zA | apply zN | apply zD | refine below_set ?_ GE708.out) | exact HB.out)) hb); clear HO705; clear BK708; clear HB; have HO705 := n0_; have HO711 := n1_; have BK708 := n2_; have HB := n3_; clear n0_ n1_ n2_ n3_; (try clear hb); (try clear hb2); (try clear hk); (try clear hi); (try clear ho0); obtain ⟨Ao23, co23, eo23⟩ := Kd.R_slice HO711.out; subst eo23) | ((with_reducible refine gate_callee (f := 25) rfl ?_); refine goesL_ (some 25) rfl rfl Tryz.func25 zq6 rfl #[.slice Ao23 t709.length co23, .string a1] rfl zq1 ?_; (with_reducible refine (impl_LogText.calls k _ _ t709 a1 t712 t713 _ ?side1 ?side2 (Gt.below HG.out (by repeat (first | (with_reducible first | exact HB.out | apply zA | apply zN | apply zD | refine below_set ?_ GE708.out) | exact HB.out))) A10.out).mono ?_); (case side1 => repeat (first | exact (Kd.R_reads' HO711.out).2.2 | (with_reducible refine Kd.C_alloc ?_ _) | (with_reducible refine Kd.C_drewN ?_ _) | (with_reducible refine Kd.C_drew ?_))); (case side2 => exact (Kd.R_reads' HO711.out).2.1); rintro e w24 ⟨rfl, hb⟩; refine ⟨_, rfl, ?_⟩; have n0_ := zK (Kd.R_below zq13 hb); have n1_ := zK (Kd.R_below zq20 hb); have n2_ := zK (blk_below (g := gb708) (o := .cells #[.int .i64 t706, .string t707] 43 (0, 0)) (by (with_reducible repeat (first | refine zM ?_ _ | refine zP ?_ | refine zQ ?_ _)); exact BK708.out) hb); have n3_ := zK (below_step (by repeat (first | (with_reducible first | exact HB.out | apply zA | apply zN | apply zD | refine below_set ?_ GE708.out) | exact HB.out)) hb); clear HO705; clear HO711; clear BK708; clear HB; have HO705 := n0_; have HO711 := n1_; have BK708 := n2_; have HB := n3_; clear n0_ n1_ n2_ n3_; (try clear hb); (try clear hb2); (try clear hk); (try clear hi)) | ((with_reducible refine gate_dst (N := 8) rfl ?_); refine box_event ?hg (N := 8) ?hd (cs := #[.int .i64 0, .string (⟨#[]⟩ : ByteArray)]) (t := 43) ?hr ?_; (case hd => rfl); (case hg => rfl); (case hr => first | (go_simp; done) | (go_simp; rfl)); intro gb714 hg w25 hbox hb; have n0_ := zK (Kd.R_below zq13 hb); have n1_ := zK (Kd.R_below zq20 hb); have n2_ := zK (blk_below (g := gb708) (o := .cells #[.int .i64 t706, .string t707] 43 (0, 0)) (by (with_reducible repeat (first | refine zM ?_ _ | refine zP ?_ | refine zQ ?_ _)); exact BK708.out) hb); have n3_ := zK (below_step (by repeat (first | (with_reducible first | exact HB.out | apply zA | apply zN | apply zD | refine below_set ?_ GE708.out) | exact HB.out)) hb); have n4_ := zK (hbox); have n5_ := zK ((by rw [hg]; exact (below_size (by repeat (first | (with_reducible first | exact HB.out | apply zA | apply zN | apply zD | refine below_set ?_ GE708.out) | exact HB.out))) : w.heap.size ≤ gb714)); have n6_ := zK ((by rw [hg]; exact (below_size (by repeat (first | (with_reducible first | exact HB.out | apply zA | apply zN | apply zD | refine below_set ?_ GE708.out) | exact HB.out))) : w.heap.size ≤ gb714)); have n7_ := zK ((by rw [hg]; exact Nat.ne_of_lt (blk_lt (g := gb708) (o := .cells #[.int .i64 t706, .string t707] 43 (0, 0)) (by (with_reducible repeat (first | refine zM ?_ _ | refine zP ?_ | refine zQ ?_ _)); exact BK708.out)) : gb708 ≠ gb714)); have n8_ := zK ((by rw [hg]; exact Nat.ne_of_gt (blk_lt (g := gb708) (o := .cells #[.int .i64 t706, .string t707] 43 (0, 0)) (by (with_reducible repeat (first | refine zM ?_ _ | refine zP ?_ | refine zQ ?_ _)); exact BK708.out)) : gb714 ≠ gb708)); clear HO705; clear HO711; clear BK708; clear HB; have HO705 := n0_; have HO711 := n1_; have BK708 := n2_; have HB := n3_; have BK714 := n4_; have GW714 := n5_; have GE714 := n6_; have NB708_714 := n7_; have NB714_708 := n8_; clear n0_ n1_ n2_ n3_ n4_ n5_ n6_ n7_ n8_; clear hb hbox hg; have hnb26 := NB714_708.out; have hnc26 := NB708_714.out; have hcz27_0 : w25.cell? ⟨gb714, 0, none⟩ = some (.int .i64 0) := (blk_cell BK714.out 0).trans rfl; have hcz27_1 : w25.cell? ⟨gb714, 1, none⟩ = some (.string (⟨#[]⟩ : ByteArray)) := (blk_cell BK714.out 1).trans rfl; have hfz27_0 := blk_frozen BK714.out 0; have hfz27_1 := blk_frozen BK714.out 1; have hcz28_0 : w25.cell? ⟨gb708, 0, none⟩ = some (.int .i64 t706) := (blk_cell BK708.out 0).trans rfl; have hcz28_1 : w25.cell? ⟨gb708, 1, none⟩ = some (.string t707) := (blk_cell BK708.out 1).trans rfl; have hfz28_0 := blk_frozen BK708.out 0; have hfz28_1 := blk_frozen BK708.out 1) | ((with_reducible refine gate_callee (f := 26) rfl ?_); refine goesL_ (some 28) rfl rfl Tryz.func26 zq6 rfl #[.agg #[.int .i64 t712, .string t713], .agg #[.int .i64 t706, .string t707]] rfl zq1 ?_; (with_reducible refine (laws_eqTextResult.calls t712 t713 t706 t707 true _ A11.out).mono ?_); rintro e w29 ⟨rfl, hb⟩; refine ⟨_, rfl, ?_⟩; have n0_ := zK (Kd.R_below (by (with_reducible repeat (first | apply zR | apply zV | apply zW)); exact (Kd.R_mono (Kd.R_far (p := ⟨gb714, 1, none⟩) (Kd.R_far (p := ⟨gb714, 0, none⟩) (Kd.R_types HO705.out BK714.out zq9) (fun _ hk => hk.2) (.int .i64 t712)) (fun _ hk => hk.2) (.string t713)) (fun _ h_ => h_.1))) hb); have n1_ := zK (Kd.R_below (by (with_reducible repeat (first | apply zR | apply zV | apply zW)); exact (Kd.R_mono (Kd.R_far (p := ⟨gb714, 1, none⟩) (Kd.R_far (p := ⟨gb714, 0, none⟩) (Kd.R_types HO711.out BK714.out zq9) (fun _ hk => hk.2) (.int .i64 t712)) (fun _ hk => hk.2) (.string t713)) (fun _ h_ => h_.1))) hb); have n2_ := zK (blk_below (g := gb708) (o := .cells #[.int .i64 t706, .string t707] 43 (0, 0)) (by (with_reducible repeat (first | refine zM ?_ _ | refine zP ?_ | refine zQ ?_ _)); refine blk_far ?_ NB708_714.out _; (with_reducible repeat (first | refine zM ?_ _ | refine zP ?_ | refine zQ ?_ _)); refine blk_far ?_ NB708_714.out _; (with_reducible repeat (first | refine zM ?_ _ | refine zP ?_ | refine zQ ?_ _)); exact BK708.out) hb); have n3_ := zK (blk_below (g := gb714) (o := .cells #[.int .i64 t712, .string t713] 43 (0, 0)) (by (with_reducible repeat (first | refine zM ?_ _ | refine zP ?_ | refine zQ ?_ _)); refine blk_put (cs := #[.int .i64 t712, .string (⟨#[]⟩ : ByteArray)]) ?_ 1 _ rfl; (with_reducible repeat (first | refine zM ?_ _ | refine zP ?_ | refine zQ ?_ _)); refine blk_put (cs := #[.int .i64 0, .string (⟨#[]⟩ : ByteArray)]) ?_ 0 _ rfl; (with_reducible repeat (first | refine zM ?_ _ | refine zP ?_ | refine zQ ?_ _)); exact BK714.out) hb); have n4_ := zK (below_step (by repeat (first | (with_reducible first | exact HB.out | apply zA | apply zN | apply zD | refine below_set ?_ GE708.out | refine below_set ?_ GE714.out) | exact HB.out)) hb); clear HO705; clear HO711; clear BK708; clear BK714; clear HB; have HO705 := n0_; have HO711 := n1_; have BK708 := n2_; have BK714 := n3_; have HB := n4_; clear n0_ n1_ n2_ n3_ n4_; (try clear hb); (try clear hb2); (try clear hk); (try clear hi)) | ((with_reducible refine gate_callee (f := 10) rfl ?_); refine goesL_ (some 32) rfl rfl Tryz.func10 zq6 rfl #[.slice A0 l0.length c0] rfl zq1 ?_; (with_reducible refine (laws_toObjectS.calls k _ _ l0 t716 _ ?side1 ?side2 A13.out).mono ?_); (case side1 => repeat (first | exact (Kd.C_below HR0.out HB.out) | (with_reducible refine Kd.C_alloc ?_ _) | (with_reducible refine Kd.C_drewN ?_ _) | (with_reducible refine Kd.C_drew ?_))); (case side2 => exact HC0.out); rintro e w30 ⟨v717, rfl, ho0, hb⟩; refine ⟨_, rfl, ?_⟩; have n0_ := zK (Kd.R_elder' zq13 (Kd.R_base ho0) hb); have n1_ := zK (Kd.R_elder' zq20 (Kd.R_base ho0) hb); have n2_ := zK (Kd.R_lower (Kd.R_new' (Kd.R_new' ho0 (Kd.R_lt zq13)) (Kd.R_lt zq20)) (below_size (by repeat (first | (with_reducible first | exact HB.out | apply zA | apply zN | apply zD | refine below_set ?_ GE708.out | refine below_set ?_ GE714.out) | exact HB.out)))); have n3_ := zK (blk_below (g := gb708) (o := .cells #[.int .i64 t706, .string t707] 43 (0, 0)) (by (with_reducible repeat (first | refine zM ?_ _ | refine zP ?_ | refine zQ ?_ _)); exact BK708.out) hb); have n4_ := zK (blk_below (g := gb714) (o := .cells #[.int .i64 t712, .string t713] 43 (0, 0)) (by (with_reducible repeat (first | refine zM ?_ _ | refine zP ?_ | refine zQ ?_ _)); exact BK714.out) hb); have n5_ := zK (below_step (by repeat (first | (with_reducible first | exact HB.out | apply zA | apply zN | apply zD | refine below_set ?_ GE708.out | refine below_set ?_ GE714.out) | exact HB.out)) hb); clear HO705; clear HO711; clear BK708; clear BK714; clear HB; have HO705 := n0_; have HO711 := n1_; have HO718 := n2_; have BK708 := n3_; have BK714 := n4_; have HB := n5_; clear n0_ n1_ n2_ n3_ n4_ n5_; (try clear hb); (try clear hb2); (try clear hk); (try clear hi); (try clear ho0); obtain ⟨Ao31, co31, eo31⟩ := Kd.R_slice HO718.out; subst eo31) | ((with_reducible refine gate_callee (f := 12) rfl ?_); refine goesL_ (some 33) rfl rfl Tryz.func12 zq6 rfl #[.slice Ao23 t709.length co23, .slice Ao31 t716.length co31] rfl zq1 ?_; (with_reducible refine (laws_eqObjectS.calls k _ _ t709 _ _ t716 true _ ?side1 ?side2 ?side3 ?side4 A14.out).mono ?_); (case side1 => repeat (first | exact (Kd.R_reads' HO711.out).2.2 | (with_reducible refine Kd.C_alloc ?_ _) | (with_reducible refine Kd.C_drewN ?_ _) | (with_reducible refine Kd.C_drew ?_))); (case side2 => exact (Kd.R_reads' HO711.out).2.1); (case side3 => repeat (first | exact (Kd.R_reads' HO718.out).2.2 | (with_reducible refine Kd.C_alloc ?_ _) | (with_reducible refine Kd.C_drewN ?_ _) | (with_reducible refine Kd.C_drew ?_))); (case side4 => exact (Kd.R_reads' HO718.out).2.1); rintro e w32 ⟨rfl, hb⟩; refine ⟨_, rfl, ?_⟩; have n0_ := zK (Kd.R_below zq13 hb); have n1_ := zK (Kd.R_below zq20 hb); have n2_ := zK (Kd.R_below (by (with_reducible repeat (first | apply zR | apply zV | apply zW)); exact HO718.out) hb); have n3_ := zK (blk_below (g := gb708) (o := .cells #[.int .i64 t706, .string t707] 43 (0, 0)) (by (with_reducible repeat (first | refine zM ?_ _ | refine zP ?_ | refine zQ ?_ _)); exact BK708.out) hb); have n4_ := zK (blk_below (g := gb714) (o := .cells #[.int .i64 t712, .string t713] 43 (0, 0)) (by (with_reducible repeat (first | refine zM ?_ _ | refine zP ?_ | refine zQ ?_ _)); exact BK714.out) hb); have n5_ := zK (below_step (by repeat (first | (with_reducible first | exact HB.out | apply zA | apply zN | apply zD | refine below_set ?_ GE708.out | refine below_set ?_ GE714.out) | exact HB.out)) hb); clear HO705; clear HO711; clear HO718; clear BK708; clear BK714; clear HB; have HO705 := n0_; have HO711 := n1_; have HO718 := n2_; have BK708 := n3_; have BK714 := n4_; have HB := n5_; clear n0_ n1_ n2_ n3_ n4_ n5_; (try clear hb); (try clear hb2); (try clear hk); (try clear hi)))
   go_ret
   exact ⟨zq3, (by repeat (first | (with_reducible first | exact HB.out | apply zA | apply zN | apply zD | refine below_set ?_ GE708.out | refine below_set ?_ GE714.out) | exact HB.out))⟩
  replace c15 := Bool.eq_false_iff.mpr c15
  subst c15
  have H1 : (some false) = some r := by rw [if_neg (show ¬ (false = true) by decide)] at H; exact H
  clear H
  have H := H1
  clear H1
  exact absurd ((Option.some.inj H).trans hT_) zq9
 replace c12 := Bool.eq_false_iff.mpr c12
 subst c12
 have H1 : (some false) = some r := by rw [if_neg (show ¬ (false = true) by decide)] at H; exact H
 clear H
 have H := H1
 clear H1
 exact absurd ((Option.some.inj H).trans hT_) zq9
end Go.Proofs.YtpnoghcdfbmpoaaGreatDoor.PX

namespace Go.Proofs.YtpnoghcdfbmpoaaGreatDoorX
open Go Go.RowKit Go.Proofs.YtpnoghcdfbmpoaaGreatDoorW.PrintWords Go.Proofs.YtpnoghcdfbmpoaaGreatDoor.PX
open Go.Proofs.YtpnoghcdfbmpoaaGreatDoor.PX.X (okO logW logIF logSF)
set_option linter.unusedVariables false
set_option linter.unusedSimpArgs false
theorem log_same (l : List IObj) (hs : oSmall l) (id : ByteArray) (hid : id.size ≤ 1048576) : ∃ V : Int × ByteArray, ∀ k, 40000000 < k → impl_LogText.f k l id = some V ∧ spec_LogText.f k l id = some V := by
 by_cases h : storeV l = 0
 · have hok := ok_of_store hs h
   refine ⟨logW l id, fun k hk => ⟨?_, ?_⟩⟩
   · unfold impl_LogText.f logIF
     rw [impl_store l hs k zq7, Option.bind_some, if_pos h, if_pos ⟨by omega, hok, hid⟩]
   · unfold spec_LogText.f logSF
     rw [spec_store l hs k zq7, Option.bind_some, if_pos h, if_pos ⟨by omega, hok, hid⟩]
 · refine ⟨(storeV l, ⟨#[]⟩), fun k hk => ⟨?_, ?_⟩⟩
   · unfold impl_LogText.f logIF
     rw [impl_store l hs k zq7, Option.bind_some, if_neg h]
   · unfold spec_LogText.f logSF
     rw [spec_store l hs k zq7, Option.bind_some, if_neg h]
theorem logText_pure (l : List LObj) (id : ByteArray) (hl1 : l.length * 40 ≤ 140737488351232) (hl2 : ∀ x ∈ l, x.f0.size ≤ 140737488351232 ∧ (Go.Lit.int .i64 x.f1).wf = true ∧ x.f2.size ≤ 140737488351232) (hd : id.size ≤ 140737488351232) : ∃ k, laws_FnExactLogText.f k l id = some true := by
 obtain ⟨K, hK⟩ : ∃ K, K = l.length + 40000400 := ⟨_, rfl⟩
 refine ⟨K + 1, ?_⟩
 unfold laws_FnExactLogText.f
 by_cases cd : (id.size : Int) > 1048576
 · rw [if_pos cd]
 rw [if_neg cd]
 obtain ⟨r, hr, hle, hq⟩ := szObjectS_tells l zq7 (fun x hx => ⟨(hl2 x hx).1, (hl2 x hx).2.2⟩) 1048576 zq9 zq9 (K + 1) zq7
 rw [hr, Option.bind_some]
 by_cases c : r < 0
 · rw [if_pos c]
 obtain ⟨hn, hs⟩ := hq zq7
 have hm : (l.map objConv).length = l.length := List.length_map _
 obtain ⟨v, hV⟩ := log_same (l.map objConv) (oconvs hs) id zq7
 have e1 := toObjectS_tells l hn (K + 1) zq7
 have e2 := (hV (K + 1) zq7).2
 have e3 := (hV (K + 1) zq7).1
 have e4 := eqObjectS_same (l.map objConv) zq7 (K + 1) zq7
 have e5 : laws_eqTextResult.f v.1 v.2 v.1 v.2 = some true := by
  unfold laws_eqTextResult.f
  simp
 rw [if_neg c]
 simp only [e1, e2, e3, e4, e5, Option.bind_some, if_true]
end Go.Proofs.YtpnoghcdfbmpoaaGreatDoorX
