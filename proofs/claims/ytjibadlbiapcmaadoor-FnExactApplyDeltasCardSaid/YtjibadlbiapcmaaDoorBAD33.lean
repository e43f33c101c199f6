/- Texts of this claim set one behind another by wip/bundle.py: XAppS, PXf32, PXf6, XLawApplyDeltas. -/
import Derived.Test.YtjibadlbiapcmaaDoorBAD32
import Derived.Test.YtjibadlbiapcmaaDoorBAD29
import Derived.Test.YtjibadlbiapcmaaDoorBAD14
import Derived.Test.YtjibadlbiapcmaaDoorBAD13
import Derived.Test.YtjibadlbiapcmaaDoorBAD12
import Derived.Test.YtjibadlbiapcmaaDoorBAD31
import Derived.Test.YtjibadlbiapcmaaDoorBAD16
import Derived.Test.YtjibadlbiapcmaaDoorBAD21
import Derived.Test.YtjibadlbiapcmaaDoorBAD28
namespace Go.Proofs.YtjibadlbiapcmaaDoor.PX.X
open Go Go.RowKit Go.Lib Go.Proofs.YtjibadlbiapcmaaDoorW.PrintWords Go.Proofs.YtjibadlbiapcmaaDoor.PX
set_option linter.unusedVariables false
set_option linter.unusedSimpArgs false
theorem rdFz (l : List FileT) (i : Nat) : rd_T106 l (i : Int) = l.getD i z106 := by
  show l.getD ((i : Int)).toNat _ = _
  rw [Int.toNat_natCast]
theorem findS_l0 (l : List FileT) (s : ByteArray) (hl : l.length ≤ 1048576) : ∀ (d i : Nat), i + d = l.length → ∀ k, d < k → spec_l7Find.l0 k l s (i : Int) = some ((findF (l.drop i) s).f0, (findF (l.drop i) s).f1, (findF (l.drop i) s).f2)
  | 0, i, hi, k, hk => by
    obtain ⟨k, rfl⟩ : ∃ m, k = m + 1 := ⟨k - 1, by omega⟩
    rw [spec_l7Find.l0, if_neg (by omega), List.drop_eq_nil_of_le (by omega)]
    rfl
  | d + 1, i, hi, k, hk => by
    obtain ⟨k, rfl⟩ : ∃ m, k = m + 1 := ⟨k - 1, by omega⟩
    have hw : wrap64 ((i : Int) + 1) = ((i + 1 : Nat) : Int) := (YtjibadlbiapcmaaDoorX.wrap_in (by omega) (by omega)).trans (by omega)
    have hd : l.drop i = l.getD i z106 :: l.drop (i + 1) := by
      rw [List.getD_eq_getElem?_getD, List.getElem?_eq_getElem (by omega), Option.getD_some]
      exact List.drop_eq_getElem_cons (by omega)
    rw [spec_l7Find.l0, if_pos (by omega), if_pos (by omega), rdFz, hw, findS_l0 l s hl d (i + 1) (by omega) k (by omega), hd]
    show _ = some ((if (l.getD i z106).f0 = s then _ else _ : FileT).f0, (if (l.getD i z106).f0 = s then _ else _ : FileT).f1, (if (l.getD i z106).f0 = s then _ else _ : FileT).f2)
    by_cases he : (l.getD i z106).f0 = s
    · rw [if_pos (congrArg ByteArray.toList he), if_pos he]
    · rw [if_neg (fun z => he (YtjibadlbiapcmaaDoorX.toList_inj z)), if_neg he]
theorem findS (l : List FileT) (s : ByteArray) (hl : l.length ≤ 1048576) (k : Nat) (hk : l.length < k) : spec_l7Find.f k l s = some ((findF l s).f0, (findF l s).f1, (findF l s).f2) := by
  have := findS_l0 l s hl l.length 0 (by omega) k hk
  rw [List.drop_zero] at this
  exact this
theorem chkS_step (l0 : List FileT) (ds : List DeltaT) (i : Nat) (h : i < ds.length) (d : DeltaT) (hd : ds.getD i z108 = d) : chkS l0 (prevP ds i) (ds.drop i) = if chkD l0 (prevP ds i) d = 0 then chkS l0 (prevP ds (i + 1)) (ds.drop (i + 1)) else chkD l0 (prevP ds i) d := by
  subst hd
  rw [drop_getD ds i h]
  rfl
theorem goS_step (ds : List DeltaT) (i : Nat) (h : i < ds.length) (L : List FileT) (d : DeltaT) (hd : ds.getD i z108 = d) : goS (ds.drop i) L = goS (ds.drop (i + 1)) (withS L d.f0 d.f2) := by
  subst hd
  rw [drop_getD ds i h]
  rfl
theorem without_snoc (L : List FileT) (s : ByteArray) (kk : Nat) (h : kk < L.length) (x : FileT) (hx : L.getD kk z106 = x) : without (L.take (kk + 1)) s = if x.f0 = s then without (L.take kk) s else without (L.take kk) s ++ [x] := by
  subst hx
  unfold without
  rw [List.take_succ_eq_append_getElem h, List.filter_append, List.getD_eq_getElem?_getD, List.getElem?_eq_getElem h, Option.getD_some]
  by_cases he : (L[kk]).f0 = s
  · rw [if_pos he, List.filter_cons_of_neg (by simp [he]), List.filter_nil, List.append_nil]
  · rw [if_neg he, List.filter_cons_of_pos (by simp [he]), List.filter_nil]
theorem sortF_length2 (l : List FileT) : (sortF l).length = l.length := by
  unfold sortF
  rw [sortF_len]
  simp
theorem withS_len (l : List FileT) (s : ByteArray) (f : FileT) : (withS l s f).length ≤ l.length + 1 := by
  have h : (without l s).length ≤ l.length := List.length_filter_le _ _
  unfold withS
  rw [sortF_length2]
  split
  · omega
  · rw [List.length_append, List.length_singleton]
    omega
set_option maxHeartbeats 8000000 in
set_option maxRecDepth 100000 in
theorem appS_calls (k : Nat) (A0 : Option Addr) (c0 : Nat) (l0 : List FileT) (A1 : Option Addr) (c1 : Nat) (ds : List DeltaT) (w : World) (hr0 : Kd.C k106 w A0 l0.length l0) (hc0 : l0.length ≤ c0) (hr1 : Kd.C k108 w A1 ds.length ds) (hc1 : ds.length ≤ c1) (hbig : l0.length + ds.length ≤ 1048576) (hk : l0.length < k)
    (c : Int) (hF : spec_FilesFault.f k l0 = some c) (hc : c = 0) (r1 : Int) (r2 : List FileT) (hR : chkS l0 none ds = 0 → ∃ q, spec_FilesFault.f k (goS ds l0) = some q ∧ (if q = 0 then ((0 : Int), goS ds l0) else (q, [])) = (r1, r2)) (hI : ∀ q, q ≠ 0 → chkS l0 none ds = q → (q, ([] : List FileT)) = (r1, r2)) :
    Calls Tryd.prog 32 #[.slice A0 l0.length c0, .slice A1 ds.length c1] w fun e w' => ∃ v, e = .returned (.agg #[.int .i64 r1, v]) ∧ Kd.R k106 106 w' w.heap.size (fun _ => True) v r2 ∧ Below w.heap.size w w' := by
  have H0 := Lib.hid hr0
  have H1 := Lib.hid hr1
  have HC0 := Lib.hid hc0
  have HF := Lib.hid hF
  have HR := Lib.hid hR
  have HI := Lib.hid hI
  have HFD := Lib.hid (fun s => findS l0 s (by omega) k hk)
  have hbl : l0.length * 40 ≤ 140737488355328 := by omega
  subst hc
  clear hr0 hr1 hF hR hI hc0 hk
  have hu := Tryd.underlying108
  have huF := Tryd.underlying106
  go_enter Tryd.func32, Tryd.ntmps32
  go_wp2_with (first
    | ((with_reducible refine gate_dst (N := 4) rfl ?_); refine box_event ?hg (N := 4) ?hd (cs := #[.int .i64 0, .slice none 0 0]) (t := 26) ?hr ?_; (case hd => rfl); (case hg => rfl); (case hr => first | (go_simp; done) | (go_simp; rfl)); intro gr hgr w1 hbox hb1; have HRB := Lib.hid hbox; have HB1 := Lib.hid hb1; have HGR := Lib.hid hgr; clear hbox hb1 hgr)
    | (go_at_call 51; (with_reducible refine (spec_FilesFault.calls k A0 c0 l0 0 w1 (Kd.C_below H0.out HB1.out) HC0.out HF.out).mono ?_); rintro e w2 ⟨rfl, hb2⟩; have HB2 := Lib.hid hb2; clear hb2)
    | ((with_reducible refine gate_dst (N := 6) rfl ?_); refine box_event ?hg (N := 6) ?hd (cs := #[.string (⟨#[]⟩ : ByteArray), .int .i64 0, .string (⟨#[]⟩ : ByteArray)]) (t := 106) ?hr ?_; (case hd => rfl); (case hg => rfl); (case hr => first | (go_simp; done) | (go_simp; rfl)); intro gn hgn w3 hbox hb3; have HN := Lib.hid hbox; have HB3 := Lib.hid hb3; have HGN := Lib.hid hgn; have y0 : w3.cell? ⟨gn, 0, none⟩ = some (.string ⟨#[]⟩) := (blk_cell hbox 0).trans rfl; have y1 : w3.cell? ⟨gn, 1, none⟩ = some (.int .i64 0) := (blk_cell hbox 1).trans rfl; have y2 : w3.cell? ⟨gn, 2, none⟩ = some (.string ⟨#[]⟩) := (blk_cell hbox 2).trans rfl; have f0 := blk_frozen hbox 0; have f1 := blk_frozen hbox 1; have f2 := blk_frozen hbox 2; clear hbox hb3 hgn))
  have hnk : (((w3.setCell ⟨gn, 0, none⟩ (.string ⟨#[]⟩)).setCell ⟨gn, 1, none⟩ (.int .i64 0)).setCell ⟨gn, 2, none⟩ (.string ⟨#[]⟩)).heap[gn]? = some (.cells #[.string ⟨#[]⟩, .int .i64 0, .string ⟨#[]⟩] 106 (0, 0)) := blk_put (blk_put (blk_put HN.out 0 (.string ⟨#[]⟩) rfl) 1 (.int .i64 0) rfl) 2 (.string ⟨#[]⟩) rfl
  have hgn2 : w2.heap.size ≤ gn := Nat.le_of_eq HGN.out.symm
  have hb2w : Below w2.heap.size w2 (((w3.setCell ⟨gn, 0, none⟩ (.string ⟨#[]⟩)).setCell ⟨gn, 1, none⟩ (.int .i64 0)).setCell ⟨gn, 2, none⟩ (.string ⟨#[]⟩)) := below_set (below_set (below_set HB3.out hgn2) hgn2) hgn2
  generalize (((w3.setCell ⟨gn, 0, none⟩ (.string ⟨#[]⟩)).setCell ⟨gn, 1, none⟩ (.int .i64 0)).setCell ⟨gn, 2, none⟩ (.string ⟨#[]⟩)) = w4 at hnk hb2w ⊢
  have HNK := Lib.hid hnk
  have HBW3 := Lib.hid (HB1.out.trans ((HB2.out.trans (hb2w.mono HB2.out.size)).mono HB1.out.size))
  have HG3 := Lib.hid (blk_below (blk_below HRB.out HB2.out) hb2w)
  clear hnk hb2w y0 y1 y2 f0 f1 f2 HN HB3 HB2 hgn2
  go_loopg [7] ds.length (fun gg s7 wr => ∃ (i : Nat), s7 = .int .i64 i ∧ i ≤ ds.length ∧ ds.length - i ≤ gg ∧ Aside (Below w4.heap.size w4 wr) ∧ Aside (chkS l0 (prevP ds i) (ds.drop i) = chkS l0 none ds))
  case atStart => exact ⟨0, rfl, Nat.zero_le _, by omega, Below.refl _ _, rfl⟩
  case round =>
    obtain ⟨i, rfl, hi, hg, BW, HG⟩ := hrel
    by_cases hlt : i < ds.length
    · have hmz : (0 : Int) ≤ (i : Int) := Int.natCast_nonneg i
      have hml : (i : Int) < (ds.length : Int) := by omega
      obtain ⟨ad, rfl, q0, q1, q2, q3, q4, q5, q6⟩ := at_T108 (Kd.C_below H1.out (HBW3.out.trans (BW.out.mono HBW3.out.size))) (i : Int) hmz hml
      have hx : rd_T108 ds (i : Int) = ds.getD i z108 := by
        show ds.getD ((i : Int)).toNat _ = _
        rw [Int.toNat_natCast]
      rw [hx] at q0 q1 q2 q3 q4 q5 q6
      rw [Int.toNat_natCast] at q0 q1 q2 q3 q4 q5 q6
      clear hx
      obtain ⟨d, hd⟩ : ∃ d, ds.getD i z108 = d := ⟨_, rfl⟩
      have HS := Lib.hid (chkS_step l0 ds i hlt d hd)
      rw [hd] at q0 q1 q2 q3 q4 q5 q6
      clear hd
      go_wp2
      have hbk := blk_new wr (.cells #[.string d.f0, .string d.f1.f0, .int .i64 d.f1.f1, .string d.f1.f2, .string d.f2.f0, .int .i64 d.f2.f1, .string d.f2.f2] 108 (0, 0))
      have hb5 : Below wr.heap.size wr (wr.alloc (.cells #[.string d.f0, .string d.f1.f0, .int .i64 d.f1.f1, .string d.f1.f2, .string d.f2.f0, .int .i64 d.f2.f1, .string d.f2.f2] 108 (0, 0))) := (Below.refl _ _).alloc (Nat.le_refl _) _
      generalize wr.alloc (.cells #[.string d.f0, .string d.f1.f0, .int .i64 d.f1.f1, .string d.f1.f2, .string d.f2.f0, .int .i64 d.f2.f1, .string d.f2.f2] 108 (0, 0)) = W5 at hbk hb5 ⊢
      have hgd := Nat.le_refl wr.heap.size
      obtain ⟨gd, hgdd⟩ : ∃ g, wr.heap.size = g := ⟨_, rfl⟩
      simp only [hgdd] at hbk ⊢
      have HGD := Lib.hid hgdd
      clear hgdd
      have B5 := Lib.hid hb5
      have x0 : W5.cell? ⟨gd, 0, none⟩ = some (.string d.f0) := (blk_cell hbk 0).trans rfl
      have x1 : W5.cell? ⟨gd, 1, none⟩ = some (.string d.f1.f0) := (blk_cell hbk 1).trans rfl
      have x2 : W5.cell? ⟨gd, 2, none⟩ = some (.int .i64 d.f1.f1) := (blk_cell hbk 2).trans rfl
      have x3 : W5.cell? ⟨gd, 3, none⟩ = some (.string d.f1.f2) := (blk_cell hbk 3).trans rfl
      have x4 : W5.cell? ⟨gd, 4, none⟩ = some (.string d.f2.f0) := (blk_cell hbk 4).trans rfl
      have x5 : W5.cell? ⟨gd, 5, none⟩ = some (.int .i64 d.f2.f1) := (blk_cell hbk 5).trans rfl
      have x6 : W5.cell? ⟨gd, 6, none⟩ = some (.string d.f2.f2) := (blk_cell hbk 6).trans rfl
      have hnk := blk_below (blk_below HNK.out BW.out) hb5
      have n0 : W5.cell? ⟨gn, 0, none⟩ = some (.string ⟨#[]⟩) := (blk_cell hnk 0).trans rfl
      have n1 : W5.cell? ⟨gn, 1, none⟩ = some (.int .i64 0) := (blk_cell hnk 1).trans rfl
      have n2 : W5.cell? ⟨gn, 2, none⟩ = some (.string ⟨#[]⟩) := (blk_cell hnk 2).trans rfl
      clear q0 q1 q2 q3 q4 q5 q6 hbk hb5 hnk hgd
      have HCH : Hid (chkD l0 (prevP ds i) d = if behind (prevP ds i) d.f0 = true then (if eqF d.f1 d.f2 = true then 1 else if fits d.f1 d.f0 = true then (if fits d.f2 d.f0 = true then (if eqF (findF l0 d.f0) d.f1 = true then 0 else 6) else 1) else 1) else 1) := Lib.hid rfl
      obtain ⟨e12, he12⟩ : ∃ b, eqF d.f1 d.f2 = b := ⟨_, rfl⟩
      have hEQ : ∀ (q : Nat) (W : World), (Op.equalIn (q + 2) 106 (.agg #[.string d.f1.f0, .int .i64 d.f1.f1, .string d.f1.f2]) (.agg #[.string d.f2.f0, .int .i64 d.f2.f1, .string d.f2.f2])).run Tryd.prog W = .ok e12 W := fun q W => (eqA106 q W _ _ _ _ _ _).trans (by rw [← he12]; rfl)
      have HE12 := Lib.hid he12
      obtain ⟨ez1, hez1⟩ : ∃ b, eqF d.f1 z106 = b := ⟨_, rfl⟩
      obtain ⟨ez2, hez2⟩ : ∃ b, eqF d.f2 z106 = b := ⟨_, rfl⟩
      obtain ⟨es1, hes1⟩ : ∃ b, eqS d.f1.f0 d.f0 = b := ⟨_, rfl⟩
      obtain ⟨es2, hes2⟩ : ∃ b, eqS d.f2.f0 d.f0 = b := ⟨_, rfl⟩
      have hzz1 : ∀ (q : Nat) (W : World), (Op.equalIn (q + 2) 106 (.agg #[.string d.f1.f0, .int .i64 d.f1.f1, .string d.f1.f2]) (.agg #[.string ⟨#[]⟩, .int .i64 0, .string ⟨#[]⟩])).run Tryd.prog W = .ok ez1 W := fun q W => (eqA106 q W _ _ _ _ _ _).trans (by rw [← hez1]; rfl)
      have hzz2 : ∀ (q : Nat) (W : World), (Op.equalIn (q + 2) 106 (.agg #[.string d.f2.f0, .int .i64 d.f2.f1, .string d.f2.f2]) (.agg #[.string ⟨#[]⟩, .int .i64 0, .string ⟨#[]⟩])).run Tryd.prog W = .ok ez2 W := fun q W => (eqA106 q W _ _ _ _ _ _).trans (by rw [← hez2]; rfl)
      have HZ1 := Lib.hid hez1
      have HZ2 := Lib.hid hez2
      have HE1 := Lib.hid (show (d.f1.f0.toList == d.f0.toList) = es1 from hes1)
      have HE2 := Lib.hid (show (d.f2.f0.toList == d.f0.toList) = es2 from hes2)
      have HES1 := Lib.hid hes1
      have HES2 := Lib.hid hes2
      clear he12 hez1 hez2 hes1 hes2
      rcases Nat.eq_zero_or_pos i with hz | hp
      rotate_left
      have hp1 : decide ((0 : Int) < (i : Int)) = true := decide_eq_true (by omega)
      obtain ⟨m, hm⟩ : ∃ m, i = m + 1 := ⟨i - 1, by omega⟩
      have hwi : IntKind.i64.wrap ((i : Int) - 1) = (m : Int) := (IntWalk.i64_in _ (by omega)).trans (by omega)
      have hm0 : (0 : Int) ≤ (m : Int) := Int.natCast_nonneg m
      have hm1 : (m : Int) < (ds.length : Int) := by omega
      obtain ⟨a3, e3, r0, _, _, _, _, _, _⟩ := at_T108 (Kd.C_below H1.out (HBW3.out.trans ((BW.out.trans (B5.out.mono BW.out.size)).mono HBW3.out.size))) (m : Int) hm0 hm1
      obtain rfl : ad = a3 := Option.some.inj e3
      have hxm : rd_T108 ds (m : Int) = ds.getD m z108 := by
        show ds.getD ((m : Int)).toNat _ = _
        rw [Int.toNat_natCast]
      rw [hxm, Int.toNat_natCast] at r0
      have hbh : behind (prevP ds i) d.f0 = lessB (ds.getD m z108).f0 d.f0 := by rw [hm]; rfl
      clear hxm e3
      generalize ds.getD m z108 = y at r0 hbh
      have HM := Lib.hid hm
      clear hm
      rcases Bool.eq_false_or_eq_true (lessB y.f0 d.f0) with hl | hl
      rotate_left
      · have hbl : Op.bytesLess y.f0.toList d.f0.toList = false := by rw [toList_data, toList_data]; exact hl
        have hch := HCH.out
        rw [hbh, hl, if_neg (by decide)] at hch
        clear hbh hl
        go_quiet (fail)
        have BV := Lib.hid (show Below wr.heap.size wr (W5.drewN nq) from pw_below_drewN B5.out nq)
        have hbV : Below W5.heap.size W5 (W5.drewN nq) := pw_below_drewN (Below.refl _ _) nq
        generalize W5.drewN nq = V at BV hbV ⊢
        clear x0 x1 x2 x3 x4 x5 x6 n0 n1 n2
        clear hbV
        have hG := HG.out
        rw [HS.out, hch, if_neg (by decide)] at hG
        have hres := HI.out 1 (by decide) hG.symm
        have BVW := Lib.hid (BW.out.trans (BV.out.mono BW.out.size))
        have hrr := blk_below HG3.out BVW.out
        have z0 : V.cell? ⟨gr, 0, none⟩ = some (.int .i64 0) := (blk_cell hrr 0).trans rfl
        have z1 : V.cell? ⟨gr, 1, none⟩ = some (.slice none 0 0) := (blk_cell hrr 1).trans rfl
        have f0 := blk_frozen hrr 0
        have f1 := blk_frozen hrr 1
        have R9 := Lib.hid hrr
        obtain ⟨hr1, hr2⟩ := Prod.mk.inj hres
        subst hr1 hr2
        clear hG hres hrr hch
        go_wp2
        have hgr : w.heap.size ≤ gr := Nat.le_of_eq HGR.out.symm
        refine bodyPost_ret (results_cell_row rfl _ _ gr 26 #[.int .i64 1, .slice none 0 0] (0, 0) _ rfl (blk_set (blk_set R9.out 0 (.int .i64 1)) 1 (.slice none 0 0)) Tryd.underlying26 rfl (by kernel_rfl)) rfl ?_
        exact ⟨_, rfl, Kd.R_nil _ _ _ _ _, below_set (below_set (HBW3.out.trans (BVW.out.mono HBW3.out.size)) hgr) hgr⟩
      have hbh : behind (prevP ds i) d.f0 = true := by rw [hz]; rfl
      have hp0 : ¬ 0 < i := by omega
      have hp1 : decide ((0 : Int) < (i : Int)) = false := decide_eq_false (by omega)
      have hp2 : decide (0 < i) = false := decide_eq_false hp0
      have HZ := Lib.hid hz
      clear hz
      rotate_left
      have hbl : Op.bytesLess y.f0.toList d.f0.toList = true := by rw [toList_data, toList_data]; exact hl
      rw [hl] at hbh
      clear hl
      all_goals (
        have hch := HCH.out
        rw [hbh, if_pos rfl, HE12.out] at hch
        clear hbh HCH
        cases e12 with
        | true =>
          rw [if_pos rfl] at hch
          go_quiet (fail)
          have BV := Lib.hid (show Below wr.heap.size wr (W5.drewN nq) from pw_below_drewN B5.out nq)
          have hbV : Below W5.heap.size W5 (W5.drewN nq) := pw_below_drewN (Below.refl _ _) nq
          generalize W5.drewN nq = V at BV hbV ⊢
          clear x0 x1 x2 x3 x4 x5 x6 n0 n1 n2
          clear hbV
          have hG := HG.out
          rw [HS.out, hch, if_neg (by decide)] at hG
          have hres := HI.out 1 (by decide) hG.symm
          have BVW := Lib.hid (BW.out.trans (BV.out.mono BW.out.size))
          have hrr := blk_below HG3.out BVW.out
          have z0 : V.cell? ⟨gr, 0, none⟩ = some (.int .i64 0) := (blk_cell hrr 0).trans rfl
          have z1 : V.cell? ⟨gr, 1, none⟩ = some (.slice none 0 0) := (blk_cell hrr 1).trans rfl
          have f0 := blk_frozen hrr 0
          have f1 := blk_frozen hrr 1
          have R9 := Lib.hid hrr
          obtain ⟨hr1, hr2⟩ := Prod.mk.inj hres
          subst hr1 hr2
          clear hG hres hrr hch
          go_wp2
          have hgr : w.heap.size ≤ gr := Nat.le_of_eq HGR.out.symm
          refine bodyPost_ret (results_cell_row rfl _ _ gr 26 #[.int .i64 1, .slice none 0 0] (0, 0) _ rfl (blk_set (blk_set R9.out 0 (.int .i64 1)) 1 (.slice none 0 0)) Tryd.underlying26 rfl (by kernel_rfl)) rfl ?_
          exact ⟨_, rfl, Kd.R_nil _ _ _ _ _, below_set (below_set (HBW3.out.trans (BVW.out.mono HBW3.out.size)) hgr) hgr⟩
        | false =>
          rw [if_neg (by decide)] at hch
          cases ez1 with
          | true =>
            rw [show fits d.f1 d.f0 = true from by unfold fits; rw [HZ1.out]; rfl, if_pos rfl] at hch
            cases ez2 with
            | true =>
              rw [show fits d.f2 d.f0 = true from by unfold fits; rw [HZ2.out]; rfl, if_pos rfl] at hch
              go_quiet (fail)
              have BV := Lib.hid (show Below wr.heap.size wr (W5.drewN nq) from pw_below_drewN B5.out nq)
              have hbV : Below W5.heap.size W5 (W5.drewN nq) := pw_below_drewN (Below.refl _ _) nq
              generalize W5.drewN nq = V at BV hbV ⊢
              have s0 := kc x0 hbV
              have s1 := kc x1 hbV
              have s2 := kc x2 hbV
              have s3 := kc x3 hbV
              have s4 := kc x4 hbV
              have s5 := kc x5 hbV
              have s6 := kc x6 hbV
              clear hbV
              clear x0 x1 x2 x3 x4 x5 x6 n0 n1 n2
              obtain ⟨x, hx⟩ : ∃ x, findF l0 d.f0 = x := ⟨_, rfl⟩
              obtain ⟨e3, he3⟩ : ∃ b, eqF x d.f1 = b := ⟨_, rfl⟩
              rw [hx, he3] at hch
              have hEQ3 : ∀ (q : Nat) (W : World), (Op.equalIn (q + 2) 106 (.agg #[.string x.f0, .int .i64 x.f1, .string x.f2]) (.agg #[.string d.f1.f0, .int .i64 d.f1.f1, .string d.f1.f2])).run Tryd.prog W = .ok e3 W := fun q W => (eqA106 q W _ _ _ _ _ _).trans (by rw [← he3]; rfl)
              have HFA : Hid (∀ V', Below V.heap.size V V' → Calls Tryd.prog 77 #[.slice A0 l0.length c0, .string d.f0] V' fun e w' => e = .returned (.agg #[.string x.f0, .int .i64 x.f1, .string x.f2]) ∧ Below V'.heap.size V' w') := Lib.hid (fun V' h => by
                rw [← hx]
                exact spec_l7Find.calls k A0 c0 l0 d.f0 _ _ _ V' (Kd.C_below H0.out (HBW3.out.trans ((BW.out.trans ((BV.out.trans (h.mono BV.out.size)).mono BW.out.size)).mono HBW3.out.size))) HC0.out (HFD.out d.f0))
              have HCHH := Lib.hid hch
              clear hx he3 hch
              go_wp2
              refine wp_region_noPanic ?_
              refine wp_region_held_drew (S := fun w' => w'.cell? ⟨gd, 0, none⟩ = some (.string d.f0) ∧ w'.cell? ⟨gd, 1, none⟩ = some (.string d.f1.f0) ∧ w'.cell? ⟨gd, 2, none⟩ = some (.int .i64 d.f1.f1) ∧ w'.cell? ⟨gd, 3, none⟩ = some (.string d.f1.f2) ∧ w'.cell? ⟨gd, 4, none⟩ = some (.string d.f2.f0) ∧ w'.cell? ⟨gd, 5, none⟩ = some (.int .i64 d.f2.f1) ∧ w'.cell? ⟨gd, 6, none⟩ = some (.string d.f2.f2) ∧ Below V.heap.size V w') (by kernel_rfl) ⟨s0, s1, s2, s3, s4, s5, s6, below_drew1 (Below.refl _ _)⟩ ?_
              intro hS0
              generalize hLL : Array.replicate _ false = lst
              obtain rfl : lst = #[false, false, false, false, false, false, false] := hLL.symm.trans (by kernel_rfl)
              clear hLL
              refine wpAnyH_take (i := 0) (v := ?_) rfl (by kernel_rfl) (by kernel_rfl) (by kernel_rfl) (fun _ _ _ h => (h : False).elim) (Or.inl ⟨by kernel_rfl, ?_⟩) (by assumption) ?_; rotate_left; (intro w' hSw; (try dsimp only at hSw); go_simp; (first | done | with_reducible rfl)); simp only [Act.put, List.setIfInBounds_toArray, List.set_cons_zero, List.set_cons_succ]
              refine wpAnyH_take (i := 1) (v := ?_) rfl (by kernel_rfl) (by kernel_rfl) (by kernel_rfl) (fun _ _ _ h => (h : False).elim) (Or.inl ⟨by kernel_rfl, ?_⟩) (by assumption) ?_; rotate_left; (intro w' hSw; (try dsimp only at hSw); go_simp; (first | done | with_reducible rfl)); simp only [Act.put, List.setIfInBounds_toArray, List.set_cons_zero, List.set_cons_succ]
              refine wpAnyH_take (i := 2) (v := ?_) rfl (by kernel_rfl) (by kernel_rfl) (by kernel_rfl) (fun _ _ _ h => (h : False).elim) (Or.inl ⟨by kernel_rfl, ?_⟩) (by assumption) ?_; rotate_left; (intro w' hSw; (try dsimp only at hSw); go_simp; (first | done | with_reducible rfl)); simp only [Act.put, List.setIfInBounds_toArray, List.set_cons_zero, List.set_cons_succ]
              refine wpAnyH_take (i := 4) (v := ?_) rfl (by kernel_rfl) (by kernel_rfl) (by kernel_rfl) (fun _ _ _ h => (h : False).elim) (Or.inl ⟨by kernel_rfl, ?_⟩) (by assumption) ?_; rotate_left; (intro w' hSw; (try dsimp only at hSw); go_simp; (first | done | with_reducible rfl)); simp only [Act.put, List.setIfInBounds_toArray, List.set_cons_zero, List.set_cons_succ]
              refine wpAnyH_take (i := 5) (v := ?_) rfl (by kernel_rfl) (by kernel_rfl) (by kernel_rfl) (fun _ _ _ h => (h : False).elim) (Or.inl ⟨by kernel_rfl, ?_⟩) (by assumption) ?_; rotate_left; (intro w' hSw; (try dsimp only at hSw); go_simp; (first | done | with_reducible rfl)); simp only [Act.put, List.setIfInBounds_toArray, List.set_cons_zero, List.set_cons_succ]
              refine wpAnyH_ready (rs := [3]) (by kernel_rfl) (by simp) ?_
              refine AllReadyH.cons rfl (fun K hK => ?_) AllReadyH.nil
              go_simp
              refine (HFA.out _ (below_drew1 (Below.refl _ _))).mono ?_
              rintro e V3 ⟨rfl, hv⟩
              refine hK.out _ _ (keepA hS0 hv) (fun hS1 => ?_)
              clear hK hS0 hv
              try simp only [Act.put, List.setIfInBounds_toArray, List.set_cons_zero, List.set_cons_succ]
              refine wpAnyH_take (i := 6) (v := ?_) rfl (by kernel_rfl) (by kernel_rfl) (by kernel_rfl) (fun _ _ _ h => (h : False).elim) (Or.inl ⟨by kernel_rfl, ?_⟩) (by assumption) ?_; rotate_left; (intro w' hSw; (try dsimp only at hSw); go_simp; (first | done | with_reducible rfl)); simp only [Act.put, List.setIfInBounds_toArray, List.set_cons_zero, List.set_cons_succ]
              refine wpAnyH_done (by kernel_rfl) ?_ _
              refine NoPanic.normal ?_
              have BV3 := Lib.hid (BV.out.trans (hS1.2.2.2.2.2.2.2.mono BV.out.size))
              clear s0 s1 s2 s3 s4 s5 s6 BV hS1
              have BV := BV3
              clear BV3
              have hch := HCHH.out
              cases e3 with
              | false =>
                rw [if_neg (by decide)] at hch
                have hG := HG.out
                rw [HS.out, hch, if_neg (by decide)] at hG
                have hres := HI.out 6 (by decide) hG.symm
                have BVW := Lib.hid (BW.out.trans (BV.out.mono BW.out.size))
                have hrr := blk_below HG3.out BVW.out
                have z0 : V3.cell? ⟨gr, 0, none⟩ = some (.int .i64 0) := (blk_cell hrr 0).trans rfl
                have z1 : V3.cell? ⟨gr, 1, none⟩ = some (.slice none 0 0) := (blk_cell hrr 1).trans rfl
                have f0 := blk_frozen hrr 0
                have f1 := blk_frozen hrr 1
                have R9 := Lib.hid hrr
                obtain ⟨hr1, hr2⟩ := Prod.mk.inj hres
                subst hr1 hr2
                clear hG hres hrr hch
                go_wp2
                have hgr : w.heap.size ≤ gr := Nat.le_of_eq HGR.out.symm
                refine bodyPost_ret (results_cell_row rfl _ _ gr 26 #[.int .i64 6, .slice none 0 0] (0, 0) _ rfl (blk_set (blk_set R9.out 0 (.int .i64 6)) 1 (.slice none 0 0)) Tryd.underlying26 rfl (by kernel_rfl)) rfl ?_
                exact ⟨_, rfl, Kd.R_nil _ _ _ _ _, below_set (below_set (HBW3.out.trans (BVW.out.mono HBW3.out.size)) hgr) hgr⟩
              | true =>
                rw [if_pos rfl] at hch
                have hG := HG.out
                rw [HS.out, hch, if_pos rfl] at hG
                have HGG := Lib.hid hG
                have BVW := Lib.hid (BW.out.trans (BV.out.mono BW.out.size))
                clear hG hch
                go_wp2
                go_roundg (ds.length - (i + 1))
                case measure => omega
                case rel => exact ⟨i + 1, by go_num, by omega, by omega, BVW.out, HGG.out⟩
            | false =>
              have hsb2 : (d.f2.f0.toList == d.f0.toList) = es2 := HE2.out
              cases es2 with
              | true =>
                have hsn2 : (d.f2.f0.toList != d.f0.toList) = false := by unfold bne; rw [hsb2]; rfl
                rw [show fits d.f2 d.f0 = true from by unfold fits; rw [HZ2.out, HES2.out]; rfl, if_pos rfl] at hch
                go_quiet (fail)
                have BV := Lib.hid (show Below wr.heap.size wr (W5.drewN nq) from pw_below_drewN B5.out nq)
                have hbV : Below W5.heap.size W5 (W5.drewN nq) := pw_below_drewN (Below.refl _ _) nq
                generalize W5.drewN nq = V at BV hbV ⊢
                have s0 := kc x0 hbV
                have s1 := kc x1 hbV
                have s2 := kc x2 hbV
                have s3 := kc x3 hbV
                have s4 := kc x4 hbV
                have s5 := kc x5 hbV
                have s6 := kc x6 hbV
                clear hbV
                clear x0 x1 x2 x3 x4 x5 x6 n0 n1 n2
                obtain ⟨x, hx⟩ : ∃ x, findF l0 d.f0 = x := ⟨_, rfl⟩
                obtain ⟨e3, he3⟩ : ∃ b, eqF x d.f1 = b := ⟨_, rfl⟩
                rw [hx, he3] at hch
                have hEQ3 : ∀ (q : Nat) (W : World), (Op.equalIn (q + 2) 106 (.agg #[.string x.f0, .int .i64 x.f1, .string x.f2]) (.agg #[.string d.f1.f0, .int .i64 d.f1.f1, .string d.f1.f2])).run Tryd.prog W = .ok e3 W := fun q W => (eqA106 q W _ _ _ _ _ _).trans (by rw [← he3]; rfl)
                have HFA : Hid (∀ V', Below V.heap.size V V' → Calls Tryd.prog 77 #[.slice A0 l0.length c0, .string d.f0] V' fun e w' => e = .returned (.agg #[.string x.f0, .int .i64 x.f1, .string x.f2]) ∧ Below V'.heap.size V' w') := Lib.hid (fun V' h => by
                  rw [← hx]
                  exact spec_l7Find.calls k A0 c0 l0 d.f0 _ _ _ V' (Kd.C_below H0.out (HBW3.out.trans ((BW.out.trans ((BV.out.trans (h.mono BV.out.size)).mono BW.out.size)).mono HBW3.out.size))) HC0.out (HFD.out d.f0))
                have HCHH := Lib.hid hch
                clear hx he3 hch
                go_wp2
                refine wp_region_noPanic ?_
                refine wp_region_held_drew (S := fun w' => w'.cell? ⟨gd, 0, none⟩ = some (.string d.f0) ∧ w'.cell? ⟨gd, 1, none⟩ = some (.string d.f1.f0) ∧ w'.cell? ⟨gd, 2, none⟩ = some (.int .i64 d.f1.f1) ∧ w'.cell? ⟨gd, 3, none⟩ = some (.string d.f1.f2) ∧ w'.cell? ⟨gd, 4, none⟩ = some (.string d.f2.f0) ∧ w'.cell? ⟨gd, 5, none⟩ = some (.int .i64 d.f2.f1) ∧ w'.cell? ⟨gd, 6, none⟩ = some (.string d.f2.f2) ∧ Below V.heap.size V w') (by kernel_rfl) ⟨s0, s1, s2, s3, s4, s5, s6, below_drew1 (Below.refl _ _)⟩ ?_
                intro hS0
                generalize hLL : Array.replicate _ false = lst
                obtain rfl : lst = #[false, false, false, false, false, false, false] := hLL.symm.trans (by kernel_rfl)
                clear hLL
                refine wpAnyH_take (i := 0) (v := ?_) rfl (by kernel_rfl) (by kernel_rfl) (by kernel_rfl) (fun _ _ _ h => (h : False).elim) (Or.inl ⟨by kernel_rfl, ?_⟩) (by assumption) ?_; rotate_left; (intro w' hSw; (try dsimp only at hSw); go_simp; (first | done | with_reducible rfl)); simp only [Act.put, List.setIfInBounds_toArray, List.set_cons_zero, List.set_cons_succ]
                refine wpAnyH_take (i := 1) (v := ?_) rfl (by kernel_rfl) (by kernel_rfl) (by kernel_rfl) (fun _ _ _ h => (h : False).elim) (Or.inl ⟨by kernel_rfl, ?_⟩) (by assumption) ?_; rotate_left; (intro w' hSw; (try dsimp only at hSw); go_simp; (first | done | with_reducible rfl)); simp only [Act.put, List.setIfInBounds_toArray, List.set_cons_zero, List.set_cons_succ]
                refine wpAnyH_take (i := 2) (v := ?_) rfl (by kernel_rfl) (by kernel_rfl) (by kernel_rfl) (fun _ _ _ h => (h : False).elim) (Or.inl ⟨by kernel_rfl, ?_⟩) (by assumption) ?_; rotate_left; (intro w' hSw; (try dsimp only at hSw); go_simp; (first | done | with_reducible rfl)); simp only [Act.put, List.setIfInBounds_toArray, List.set_cons_zero, List.set_cons_succ]
                refine wpAnyH_take (i := 4) (v := ?_) rfl (by kernel_rfl) (by kernel_rfl) (by kernel_rfl) (fun _ _ _ h => (h : False).elim) (Or.inl ⟨by kernel_rfl, ?_⟩) (by assumption) ?_; rotate_left; (intro w' hSw; (try dsimp only at hSw); go_simp; (first | done | with_reducible rfl)); simp only [Act.put, List.setIfInBounds_toArray, List.set_cons_zero, List.set_cons_succ]
                refine wpAnyH_take (i := 5) (v := ?_) rfl (by kernel_rfl) (by kernel_rfl) (by kernel_rfl) (fun _ _ _ h => (h : False).elim) (Or.inl ⟨by kernel_rfl, ?_⟩) (by assumption) ?_; rotate_left; (intro w' hSw; (try dsimp only at hSw); go_simp; (first | done | with_reducible rfl)); simp only [Act.put, List.setIfInBounds_toArray, List.set_cons_zero, List.set_cons_succ]
                refine wpAnyH_ready (rs := [3]) (by kernel_rfl) (by simp) ?_
                refine AllReadyH.cons rfl (fun K hK => ?_) AllReadyH.nil
                go_simp
                refine (HFA.out _ (below_drew1 (Below.refl _ _))).mono ?_
                rintro e V3 ⟨rfl, hv⟩
                refine hK.out _ _ (keepA hS0 hv) (fun hS1 => ?_)
                clear hK hS0 hv
                try simp only [Act.put, List.setIfInBounds_toArray, List.set_cons_zero, List.set_cons_succ]
                refine wpAnyH_take (i := 6) (v := ?_) rfl (by kernel_rfl) (by kernel_rfl) (by kernel_rfl) (fun _ _ _ h => (h : False).elim) (Or.inl ⟨by kernel_rfl, ?_⟩) (by assumption) ?_; rotate_left; (intro w' hSw; (try dsimp only at hSw); go_simp; (first | done | with_reducible rfl)); simp only [Act.put, List.setIfInBounds_toArray, List.set_cons_zero, List.set_cons_succ]
                refine wpAnyH_done (by kernel_rfl) ?_ _
                refine NoPanic.normal ?_
                have BV3 := Lib.hid (BV.out.trans (hS1.2.2.2.2.2.2.2.mono BV.out.size))
                clear s0 s1 s2 s3 s4 s5 s6 BV hS1
                have BV := BV3
                clear BV3
                have hch := HCHH.out
                cases e3 with
                | false =>
                  rw [if_neg (by decide)] at hch
                  have hG := HG.out
                  rw [HS.out, hch, if_neg (by decide)] at hG
                  have hres := HI.out 6 (by decide) hG.symm
                  have BVW := Lib.hid (BW.out.trans (BV.out.mono BW.out.size))
                  have hrr := blk_below HG3.out BVW.out
                  have z0 : V3.cell? ⟨gr, 0, none⟩ = some (.int .i64 0) := (blk_cell hrr 0).trans rfl
                  have z1 : V3.cell? ⟨gr, 1, none⟩ = some (.slice none 0 0) := (blk_cell hrr 1).trans rfl
                  have f0 := blk_frozen hrr 0
                  have f1 := blk_frozen hrr 1
                  have R9 := Lib.hid hrr
                  obtain ⟨hr1, hr2⟩ := Prod.mk.inj hres
                  subst hr1 hr2
                  clear hG hres hrr hch
                  go_wp2
                  have hgr : w.heap.size ≤ gr := Nat.le_of_eq HGR.out.symm
                  refine bodyPost_ret (results_cell_row rfl _ _ gr 26 #[.int .i64 6, .slice none 0 0] (0, 0) _ rfl (blk_set (blk_set R9.out 0 (.int .i64 6)) 1 (.slice none 0 0)) Tryd.underlying26 rfl (by kernel_rfl)) rfl ?_
                  exact ⟨_, rfl, Kd.R_nil _ _ _ _ _, below_set (below_set (HBW3.out.trans (BVW.out.mono HBW3.out.size)) hgr) hgr⟩
                | true =>
                  rw [if_pos rfl] at hch
                  have hG := HG.out
                  rw [HS.out, hch, if_pos rfl] at hG
                  have HGG := Lib.hid hG
                  have BVW := Lib.hid (BW.out.trans (BV.out.mono BW.out.size))
                  clear hG hch
                  go_wp2
                  go_roundg (ds.length - (i + 1))
                  case measure => omega
                  case rel => exact ⟨i + 1, by go_num, by omega, by omega, BVW.out, HGG.out⟩
              | false =>
                have hsn2 : (d.f2.f0.toList != d.f0.toList) = true := by unfold bne; rw [hsb2]; rfl
                rw [show fits d.f2 d.f0 = false from by unfold fits; rw [HZ2.out, HES2.out]; rfl, if_neg (by decide)] at hch
                go_quiet (fail)
                have BV := Lib.hid (show Below wr.heap.size wr (W5.drewN nq) from pw_below_drewN B5.out nq)
                have hbV : Below W5.heap.size W5 (W5.drewN nq) := pw_below_drewN (Below.refl _ _) nq
                generalize W5.drewN nq = V at BV hbV ⊢
                clear x0 x1 x2 x3 x4 x5 x6 n0 n1 n2
                clear hbV
                have hG := HG.out
                rw [HS.out, hch, if_neg (by decide)] at hG
                have hres := HI.out 1 (by decide) hG.symm
                have BVW := Lib.hid (BW.out.trans (BV.out.mono BW.out.size))
                have hrr := blk_below HG3.out BVW.out
                have z0 : V.cell? ⟨gr, 0, none⟩ = some (.int .i64 0) := (blk_cell hrr 0).trans rfl
                have z1 : V.cell? ⟨gr, 1, none⟩ = some (.slice none 0 0) := (blk_cell hrr 1).trans rfl
                have f0 := blk_frozen hrr 0
                have f1 := blk_frozen hrr 1
                have R9 := Lib.hid hrr
                obtain ⟨hr1, hr2⟩ := Prod.mk.inj hres
                subst hr1 hr2
                clear hG hres hrr hch
                go_wp2
                have hgr : w.heap.size ≤ gr := Nat.le_of_eq HGR.out.symm
                refine bodyPost_ret (results_cell_row rfl _ _ gr 26 #[.int .i64 1, .slice none 0 0] (0, 0) _ rfl (blk_set (blk_set R9.out 0 (.int .i64 1)) 1 (.slice none 0 0)) Tryd.underlying26 rfl (by kernel_rfl)) rfl ?_
                exact ⟨_, rfl, Kd.R_nil _ _ _ _ _, below_set (below_set (HBW3.out.trans (BVW.out.mono HBW3.out.size)) hgr) hgr⟩
          | false =>
            have hsb1 : (d.f1.f0.toList == d.f0.toList) = es1 := HE1.out
            cases es1 with
            | true =>
              have hsn1 : (d.f1.f0.toList != d.f0.toList) = false := by unfold bne; rw [hsb1]; rfl
              rw [show fits d.f1 d.f0 = true from by unfold fits; rw [HZ1.out, HES1.out]; rfl, if_pos rfl] at hch
              cases ez2 with
              | true =>
                rw [show fits d.f2 d.f0 = true from by unfold fits; rw [HZ2.out]; rfl, if_pos rfl] at hch
                go_quiet (fail)
                have BV := Lib.hid (show Below wr.heap.size wr (W5.drewN nq) from pw_below_drewN B5.out nq)
                have hbV : Below W5.heap.size W5 (W5.drewN nq) := pw_below_drewN (Below.refl _ _) nq
                generalize W5.drewN nq = V at BV hbV ⊢
                have s0 := kc x0 hbV
                have s1 := kc x1 hbV
                have s2 := kc x2 hbV
                have s3 := kc x3 hbV
                have s4 := kc x4 hbV
                have s5 := kc x5 hbV
                have s6 := kc x6 hbV
                clear hbV
                clear x0 x1 x2 x3 x4 x5 x6 n0 n1 n2
                obtain ⟨x, hx⟩ : ∃ x, findF l0 d.f0 = x := ⟨_, rfl⟩
                obtain ⟨e3, he3⟩ : ∃ b, eqF x d.f1 = b := ⟨_, rfl⟩
                rw [hx, he3] at hch
                have hEQ3 : ∀ (q : Nat) (W : World), (Op.equalIn (q + 2) 106 (.agg #[.string x.f0, .int .i64 x.f1, .string x.f2]) (.agg #[.string d.f1.f0, .int .i64 d.f1.f1, .string d.f1.f2])).run Tryd.prog W = .ok e3 W := fun q W => (eqA106 q W _ _ _ _ _ _).trans (by rw [← he3]; rfl)
                have HFA : Hid (∀ V', Below V.heap.size V V' → Calls Tryd.prog 77 #[.slice A0 l0.length c0, .string d.f0] V' fun e w' => e = .returned (.agg #[.string x.f0, .int .i64 x.f1, .string x.f2]) ∧ Below V'.heap.size V' w') := Lib.hid (fun V' h => by
                  rw [← hx]
                  exact spec_l7Find.calls k A0 c0 l0 d.f0 _ _ _ V' (Kd.C_below H0.out (HBW3.out.trans ((BW.out.trans ((BV.out.trans (h.mono BV.out.size)).mono BW.out.size)).mono HBW3.out.size))) HC0.out (HFD.out d.f0))
                have HCHH := Lib.hid hch
                clear hx he3 hch
                go_wp2
                refine wp_region_noPanic ?_
                refine wp_region_held_drew (S := fun w' => w'.cell? ⟨gd, 0, none⟩ = some (.string d.f0) ∧ w'.cell? ⟨gd, 1, none⟩ = some (.string d.f1.f0) ∧ w'.cell? ⟨gd, 2, none⟩ = some (.int .i64 d.f1.f1) ∧ w'.cell? ⟨gd, 3, none⟩ = some (.string d.f1.f2) ∧ w'.cell? ⟨gd, 4, none⟩ = some (.string d.f2.f0) ∧ w'.cell? ⟨gd, 5, none⟩ = some (.int .i64 d.f2.f1) ∧ w'.cell? ⟨gd, 6, none⟩ = some (.string d.f2.f2) ∧ Below V.heap.size V w') (by kernel_rfl) ⟨s0, s1, s2, s3, s4, s5, s6, below_drew1 (Below.refl _ _)⟩ ?_
                intro hS0
                generalize hLL : Array.replicate _ false = lst
                obtain rfl : lst = #[false, false, false, false, false, false, false] := hLL.symm.trans (by kernel_rfl)
                clear hLL
                refine wpAnyH_take (i := 0) (v := ?_) rfl (by kernel_rfl) (by kernel_rfl) (by kernel_rfl) (fun _ _ _ h => (h : False).elim) (Or.inl ⟨by kernel_rfl, ?_⟩) (by assumption) ?_; rotate_left; (intro w' hSw; (try dsimp only at hSw); go_simp; (first | done | with_reducible rfl)); simp only [Act.put, List.setIfInBounds_toArray, List.set_cons_zero, List.set_cons_succ]
                refine wpAnyH_take (i := 1) (v := ?_) rfl (by kernel_rfl) (by kernel_rfl) (by kernel_rfl) (fun _ _ _ h => (h : False).elim) (Or.inl ⟨by kernel_rfl, ?_⟩) (by assumption) ?_; rotate_left; (intro w' hSw; (try dsimp only at hSw); go_simp; (first | done | with_reducible rfl)); simp only [Act.put, List.setIfInBounds_toArray, List.set_cons_zero, List.set_cons_succ]
                refine wpAnyH_take (i := 2) (v := ?_) rfl (by kernel_rfl) (by kernel_rfl) (by kernel_rfl) (fun _ _ _ h => (h : False).elim) (Or.inl ⟨by kernel_rfl, ?_⟩) (by assumption) ?_; rotate_left; (intro w' hSw; (try dsimp only at hSw); go_simp; (first | done | with_reducible rfl)); simp only [Act.put, List.setIfInBounds_toArray, List.set_cons_zero, List.set_cons_succ]
                refine wpAnyH_take (i := 4) (v := ?_) rfl (by kernel_rfl) (by kernel_rfl) (by kernel_rfl) (fun _ _ _ h => (h : False).elim) (Or.inl ⟨by kernel_rfl, ?_⟩) (by assumption) ?_; rotate_left; (intro w' hSw; (try dsimp only at hSw); go_simp; (first | done | with_reducible rfl)); simp only [Act.put, List.setIfInBounds_toArray, List.set_cons_zero, List.set_cons_succ]
                refine wpAnyH_take (i := 5) (v := ?_) rfl (by kernel_rfl) (by kernel_rfl) (by kernel_rfl) (fun _ _ _ h => (h : False).elim) (Or.inl ⟨by kernel_rfl, ?_⟩) (by assumption) ?_; rotate_left; (intro w' hSw; (try dsimp only at hSw); go_simp; (first | done | with_reducible rfl)); simp only [Act.put, List.setIfInBounds_toArray, List.set_cons_zero, List.set_cons_succ]
                refine wpAnyH_ready (rs := [3]) (by kernel_rfl) (by simp) ?_
                refine AllReadyH.cons rfl (fun K hK => ?_) AllReadyH.nil
                go_simp
                refine (HFA.out _ (below_drew1 (Below.refl _ _))).mono ?_
                rintro e V3 ⟨rfl, hv⟩
                refine hK.out _ _ (keepA hS0 hv) (fun hS1 => ?_)
                clear hK hS0 hv
                try simp only [Act.put, List.setIfInBounds_toArray, List.set_cons_zero, List.set_cons_succ]
                refine wpAnyH_take (i := 6) (v := ?_) rfl (by kernel_rfl) (by kernel_rfl) (by kernel_rfl) (fun _ _ _ h => (h : False).elim) (Or.inl ⟨by kernel_rfl, ?_⟩) (by assumption) ?_; rotate_left; (intro w' hSw; (try dsimp only at hSw); go_simp; (first | done | with_reducible rfl)); simp only [Act.put, List.setIfInBounds_toArray, List.set_cons_zero, List.set_cons_succ]
                refine wpAnyH_done (by kernel_rfl) ?_ _
                refine NoPanic.normal ?_
                have BV3 := Lib.hid (BV.out.trans (hS1.2.2.2.2.2.2.2.mono BV.out.size))
                clear s0 s1 s2 s3 s4 s5 s6 BV hS1
                have BV := BV3
                clear BV3
                have hch := HCHH.out
                cases e3 with
                | false =>
                  rw [if_neg (by decide)] at hch
                  have hG := HG.out
                  rw [HS.out, hch, if_neg (by decide)] at hG
                  have hres := HI.out 6 (by decide) hG.symm
                  have BVW := Lib.hid (BW.out.trans (BV.out.mono BW.out.size))
                  have hrr := blk_below HG3.out BVW.out
                  have z0 : V3.cell? ⟨gr, 0, none⟩ = some (.int .i64 0) := (blk_cell hrr 0).trans rfl
                  have z1 : V3.cell? ⟨gr, 1, none⟩ = some (.slice none 0 0) := (blk_cell hrr 1).trans rfl
                  have f0 := blk_frozen hrr 0
                  have f1 := blk_frozen hrr 1
                  have R9 := Lib.hid hrr
                  obtain ⟨hr1, hr2⟩ := Prod.mk.inj hres
                  subst hr1 hr2
                  clear hG hres hrr hch
                  go_wp2
                  have hgr : w.heap.size ≤ gr := Nat.le_of_eq HGR.out.symm
                  refine bodyPost_ret (results_cell_row rfl _ _ gr 26 #[.int .i64 6, .slice none 0 0] (0, 0) _ rfl (blk_set (blk_set R9.out 0 (.int .i64 6)) 1 (.slice none 0 0)) Tryd.underlying26 rfl (by kernel_rfl)) rfl ?_
                  exact ⟨_, rfl, Kd.R_nil _ _ _ _ _, below_set (below_set (HBW3.out.trans (BVW.out.mono HBW3.out.size)) hgr) hgr⟩
                | true =>
                  rw [if_pos rfl] at hch
                  have hG := HG.out
                  rw [HS.out, hch, if_pos rfl] at hG
                  have HGG := Lib.hid hG
                  have BVW := Lib.hid (BW.out.trans (BV.out.mono BW.out.size))
                  clear hG hch
                  go_wp2
                  go_roundg (ds.length - (i + 1))
                  case measure => omega
                  case rel => exact ⟨i + 1, by go_num, by omega, by omega, BVW.out, HGG.out⟩
              | false =>
                have hsb2 : (d.f2.f0.toList == d.f0.toList) = es2 := HE2.out
                cases es2 with
                | true =>
                  have hsn2 : (d.f2.f0.toList != d.f0.toList) = false := by unfold bne; rw [hsb2]; rfl
                  rw [show fits d.f2 d.f0 = true from by unfold fits; rw [HZ2.out, HES2.out]; rfl, if_pos rfl] at hch
                  go_quiet (fail)
                  have BV := Lib.hid (show Below wr.heap.size wr (W5.drewN nq) from pw_below_drewN B5.out nq)
                  have hbV : Below W5.heap.size W5 (W5.drewN nq) := pw_below_drewN (Below.refl _ _) nq
                  generalize W5.drewN nq = V at BV hbV ⊢
                  have s0 := kc x0 hbV
                  have s1 := kc x1 hbV
                  have s2 := kc x2 hbV
                  have s3 := kc x3 hbV
                  have s4 := kc x4 hbV
                  have s5 := kc x5 hbV
                  have s6 := kc x6 hbV
                  clear hbV
                  clear x0 x1 x2 x3 x4 x5 x6 n0 n1 n2
                  obtain ⟨x, hx⟩ : ∃ x, findF l0 d.f0 = x := ⟨_, rfl⟩
                  obtain ⟨e3, he3⟩ : ∃ b, eqF x d.f1 = b := ⟨_, rfl⟩
                  rw [hx, he3] at hch
                  have hEQ3 : ∀ (q : Nat) (W : World), (Op.equalIn (q + 2) 106 (.agg #[.string x.f0, .int .i64 x.f1, .string x.f2]) (.agg #[.string d.f1.f0, .int .i64 d.f1.f1, .string d.f1.f2])).run Tryd.prog W = .ok e3 W := fun q W => (eqA106 q W _ _ _ _ _ _).trans (by rw [← he3]; rfl)
                  have HFA : Hid (∀ V', Below V.heap.size V V' → Calls Tryd.prog 77 #[.slice A0 l0.length c0, .string d.f0] V' fun e w' => e = .returned (.agg #[.string x.f0, .int .i64 x.f1, .string x.f2]) ∧ Below V'.heap.size V' w') := Lib.hid (fun V' h => by
                    rw [← hx]
                    exact spec_l7Find.calls k A0 c0 l0 d.f0 _ _ _ V' (Kd.C_below H0.out (HBW3.out.trans ((BW.out.trans ((BV.out.trans (h.mono BV.out.size)).mono BW.out.size)).mono HBW3.out.size))) HC0.out (HFD.out d.f0))
                  have HCHH := Lib.hid hch
                  clear hx he3 hch
                  go_wp2
                  refine wp_region_noPanic ?_
                  refine wp_region_held_drew (S := fun w' => w'.cell? ⟨gd, 0, none⟩ = some (.string d.f0) ∧ w'.cell? ⟨gd, 1, none⟩ = some (.string d.f1.f0) ∧ w'.cell? ⟨gd, 2, none⟩ = some (.int .i64 d.f1.f1) ∧ w'.cell? ⟨gd, 3, none⟩ = some (.string d.f1.f2) ∧ w'.cell? ⟨gd, 4, none⟩ = some (.string d.f2.f0) ∧ w'.cell? ⟨gd, 5, none⟩ = some (.int .i64 d.f2.f1) ∧ w'.cell? ⟨gd, 6, none⟩ = some (.string d.f2.f2) ∧ Below V.heap.size V w') (by kernel_rfl) ⟨s0, s1, s2, s3, s4, s5, s6, below_drew1 (Below.refl _ _)⟩ ?_
                  intro hS0
                  generalize hLL : Array.replicate _ false = lst
                  obtain rfl : lst = #[false, false, false, false, false, false, false] := hLL.symm.trans (by kernel_rfl)
                  clear hLL
                  refine wpAnyH_take (i := 0) (v := ?_) rfl (by kernel_rfl) (by kernel_rfl) (by kernel_rfl) (fun _ _ _ h => (h : False).elim) (Or.inl ⟨by kernel_rfl, ?_⟩) (by assumption) ?_; rotate_left; (intro w' hSw; (try dsimp only at hSw); go_simp; (first | done | with_reducible rfl)); simp only [Act.put, List.setIfInBounds_toArray, List.set_cons_zero, List.set_cons_succ]
                  refine wpAnyH_take (i := 1) (v := ?_) rfl (by kernel_rfl) (by kernel_rfl) (by kernel_rfl) (fun _ _ _ h => (h : False).elim) (Or.inl ⟨by kernel_rfl, ?_⟩) (by assumption) ?_; rotate_left; (intro w' hSw; (try dsimp only at hSw); go_simp; (first | done | with_reducible rfl)); simp only [Act.put, List.setIfInBounds_toArray, List.set_cons_zero, List.set_cons_succ]
                  refine wpAnyH_take (i := 2) (v := ?_) rfl (by kernel_rfl) (by kernel_rfl) (by kernel_rfl) (fun _ _ _ h => (h : False).elim) (Or.inl ⟨by kernel_rfl, ?_⟩) (by assumption) ?_; rotate_left; (intro w' hSw; (try dsimp only at hSw); go_simp; (first | done | with_reducible rfl)); simp only [Act.put, List.setIfInBounds_toArray, List.set_cons_zero, List.set_cons_succ]
                  refine wpAnyH_take (i := 4) (v := ?_) rfl (by kernel_rfl) (by kernel_rfl) (by kernel_rfl) (fun _ _ _ h => (h : False).elim) (Or.inl ⟨by kernel_rfl, ?_⟩) (by assumption) ?_; rotate_left; (intro w' hSw; (try dsimp only at hSw); go_simp; (first | done | with_reducible rfl)); simp only [Act.put, List.setIfInBounds_toArray, List.set_cons_zero, List.set_cons_succ]
                  refine wpAnyH_take (i := 5) (v := ?_) rfl (by kernel_rfl) (by kernel_rfl) (by kernel_rfl) (fun _ _ _ h => (h : False).elim) (Or.inl ⟨by kernel_rfl, ?_⟩) (by assumption) ?_; rotate_left; (intro w' hSw; (try dsimp only at hSw); go_simp; (first | done | with_reducible rfl)); simp only [Act.put, List.setIfInBounds_toArray, List.set_cons_zero, List.set_cons_succ]
                  refine wpAnyH_ready (rs := [3]) (by kernel_rfl) (by simp) ?_
                  refine AllReadyH.cons rfl (fun K hK => ?_) AllReadyH.nil
                  go_simp
                  refine (HFA.out _ (below_drew1 (Below.refl _ _))).mono ?_
                  rintro e V3 ⟨rfl, hv⟩
                  refine hK.out _ _ (keepA hS0 hv) (fun hS1 => ?_)
                  clear hK hS0 hv
                  try simp only [Act.put, List.setIfInBounds_toArray, List.set_cons_zero, List.set_cons_succ]
                  refine wpAnyH_take (i := 6) (v := ?_) rfl (by kernel_rfl) (by kernel_rfl) (by kernel_rfl) (fun _ _ _ h => (h : False).elim) (Or.inl ⟨by kernel_rfl, ?_⟩) (by assumption) ?_; rotate_left; (intro w' hSw; (try dsimp only at hSw); go_simp; (first | done | with_reducible rfl)); simp only [Act.put, List.setIfInBounds_toArray, List.set_cons_zero, List.set_cons_succ]
                  refine wpAnyH_done (by kernel_rfl) ?_ _
                  refine NoPanic.normal ?_
                  have BV3 := Lib.hid (BV.out.trans (hS1.2.2.2.2.2.2.2.mono BV.out.size))
                  clear s0 s1 s2 s3 s4 s5 s6 BV hS1
                  have BV := BV3
                  clear BV3
                  have hch := HCHH.out
                  cases e3 with
                  | false =>
                    rw [if_neg (by decide)] at hch
                    have hG := HG.out
                    rw [HS.out, hch, if_neg (by decide)] at hG
                    have hres := HI.out 6 (by decide) hG.symm
                    have BVW := Lib.hid (BW.out.trans (BV.out.mono BW.out.size))
                    have hrr := blk_below HG3.out BVW.out
                    have z0 : V3.cell? ⟨gr, 0, none⟩ = some (.int .i64 0) := (blk_cell hrr 0).trans rfl
                    have z1 : V3.cell? ⟨gr, 1, none⟩ = some (.slice none 0 0) := (blk_cell hrr 1).trans rfl
                    have f0 := blk_frozen hrr 0
                    have f1 := blk_frozen hrr 1
                    have R9 := Lib.hid hrr
                    obtain ⟨hr1, hr2⟩ := Prod.mk.inj hres
                    subst hr1 hr2
                    clear hG hres hrr hch
                    go_wp2
                    have hgr : w.heap.size ≤ gr := Nat.le_of_eq HGR.out.symm
                    refine bodyPost_ret (results_cell_row rfl _ _ gr 26 #[.int .i64 6, .slice none 0 0] (0, 0) _ rfl (blk_set (blk_set R9.out 0 (.int .i64 6)) 1 (.slice none 0 0)) Tryd.underlying26 rfl (by kernel_rfl)) rfl ?_
                    exact ⟨_, rfl, Kd.R_nil _ _ _ _ _, below_set (below_set (HBW3.out.trans (BVW.out.mono HBW3.out.size)) hgr) hgr⟩
                  | true =>
                    rw [if_pos rfl] at hch
                    have hG := HG.out
                    rw [HS.out, hch, if_pos rfl] at hG
                    have HGG := Lib.hid hG
                    have BVW := Lib.hid (BW.out.trans (BV.out.mono BW.out.size))
                    clear hG hch
                    go_wp2
                    go_roundg (ds.length - (i + 1))
                    case measure => omega
                    case rel => exact ⟨i + 1, by go_num, by omega, by omega, BVW.out, HGG.out⟩
                | false =>
                  have hsn2 : (d.f2.f0.toList != d.f0.toList) = true := by unfold bne; rw [hsb2]; rfl
                  rw [show fits d.f2 d.f0 = false from by unfold fits; rw [HZ2.out, HES2.out]; rfl, if_neg (by decide)] at hch
                  go_quiet (fail)
                  have BV := Lib.hid (show Below wr.heap.size wr (W5.drewN nq) from pw_below_drewN B5.out nq)
                  have hbV : Below W5.heap.size W5 (W5.drewN nq) := pw_below_drewN (Below.refl _ _) nq
                  generalize W5.drewN nq = V at BV hbV ⊢
                  clear x0 x1 x2 x3 x4 x5 x6 n0 n1 n2
                  clear hbV
                  have hG := HG.out
                  rw [HS.out, hch, if_neg (by decide)] at hG
                  have hres := HI.out 1 (by decide) hG.symm
                  have BVW := Lib.hid (BW.out.trans (BV.out.mono BW.out.size))
                  have hrr := blk_below HG3.out BVW.out
                  have z0 : V.cell? ⟨gr, 0, none⟩ = some (.int .i64 0) := (blk_cell hrr 0).trans rfl
                  have z1 : V.cell? ⟨gr, 1, none⟩ = some (.slice none 0 0) := (blk_cell hrr 1).trans rfl
                  have f0 := blk_frozen hrr 0
                  have f1 := blk_frozen hrr 1
                  have R9 := Lib.hid hrr
                  obtain ⟨hr1, hr2⟩ := Prod.mk.inj hres
                  subst hr1 hr2
                  clear hG hres hrr hch
                  go_wp2
                  have hgr : w.heap.size ≤ gr := Nat.le_of_eq HGR.out.symm
                  refine bodyPost_ret (results_cell_row rfl _ _ gr 26 #[.int .i64 1, .slice none 0 0] (0, 0) _ rfl (blk_set (blk_set R9.out 0 (.int .i64 1)) 1 (.slice none 0 0)) Tryd.underlying26 rfl (by kernel_rfl)) rfl ?_
                  exact ⟨_, rfl, Kd.R_nil _ _ _ _ _, below_set (below_set (HBW3.out.trans (BVW.out.mono HBW3.out.size)) hgr) hgr⟩
            | false =>
              have hsn1 : (d.f1.f0.toList != d.f0.toList) = true := by unfold bne; rw [hsb1]; rfl
              rw [show fits d.f1 d.f0 = false from by unfold fits; rw [HZ1.out, HES1.out]; rfl, if_neg (by decide)] at hch
              go_quiet (fail)
              have BV := Lib.hid (show Below wr.heap.size wr (W5.drewN nq) from pw_below_drewN B5.out nq)
              have hbV : Below W5.heap.size W5 (W5.drewN nq) := pw_below_drewN (Below.refl _ _) nq
              generalize W5.drewN nq = V at BV hbV ⊢
              clear x0 x1 x2 x3 x4 x5 x6 n0 n1 n2
              clear hbV
              have hG := HG.out
              rw [HS.out, hch, if_neg (by decide)] at hG
              have hres := HI.out 1 (by decide) hG.symm
              have BVW := Lib.hid (BW.out.trans (BV.out.mono BW.out.size))
              have hrr := blk_below HG3.out BVW.out
              have z0 : V.cell? ⟨gr, 0, none⟩ = some (.int .i64 0) := (blk_cell hrr 0).trans rfl
              have z1 : V.cell? ⟨gr, 1, none⟩ = some (.slice none 0 0) := (blk_cell hrr 1).trans rfl
              have f0 := blk_frozen hrr 0
              have f1 := blk_frozen hrr 1
              have R9 := Lib.hid hrr
              obtain ⟨hr1, hr2⟩ := Prod.mk.inj hres
              subst hr1 hr2
              clear hG hres hrr hch
              go_wp2
              have hgr : w.heap.size ≤ gr := Nat.le_of_eq HGR.out.symm
              refine bodyPost_ret (results_cell_row rfl _ _ gr 26 #[.int .i64 1, .slice none 0 0] (0, 0) _ rfl (blk_set (blk_set R9.out 0 (.int .i64 1)) 1 (.slice none 0 0)) Tryd.underlying26 rfl (by kernel_rfl)) rfl ?_
              exact ⟨_, rfl, Kd.R_nil _ _ _ _ _, below_set (below_set (HBW3.out.trans (BVW.out.mono HBW3.out.size)) hgr) hgr⟩)
    · have hie : i = ds.length := by omega
      subst hie
      have hch : chkS l0 none ds = 0 := by rw [← HG.out, List.drop_length]; rfl
      obtain ⟨qq, hq1, hq2⟩ := HR.out hch
      have HQ1 := Lib.hid hq1
      have HQ2 := Lib.hid hq2
      clear hch hq1 hq2 HI HG
      go_wp2_with (first
        | ((with_reducible refine gate_dst (N := 88) rfl ?_); refine Kd.R_lit k106 _ 106 ?hg (N := 88) ?hd (xs := ([] : List FileT)) (inner := []) (ok := fun _ => True) (okp := fun _ => True) ?hr ?hp (fun _ hk => hk) trivial (Below.refl _ _) (Nat.le_refl _) (by simp) ?_; (case hd => rfl); (case hg => rfl); (case hr => first | (go_simp; done) | (go_simp; rfl)); (case hp => exact (Reps.none _ _)); intro v88 w5 hoo_ hbb_ hg_ hnew_; clear hg_ hnew_; obtain ⟨A88, c88, rfl⟩ := Kd.R_slice hoo_; have O5 := Lib.hid hoo_; have B5 := Lib.hid hbb_; clear hoo_ hbb_)
        | ((with_reducible refine gate_builtin (b := .append) (xs := #[.tmp 88, .tmp 89]) rfl ?_); at_builtin; refine Kd.R_append_rows k106 (Rr := fun x cs => cs = encF x) (w0 := wr) wr.heap.size rfl (.tmp 88) (.tmp 89) 24 106 (.agg #[.string ⟨#[]⟩, .int .i64 0, .string ⟨#[]⟩]) 40 rfl Tryd.underlying24 info106 rfl (by decide) (by decide) (.slice A88 ([] : List FileT).length c88) ([] : List FileT) l0 A0 l0.length c0 (fun _ => True) (fun _ => False) rfl rfl O5.out ((Kd.C_below H0.out (HBW3.out.trans ((BW.out.trans (B5.out.mono BW.out.size)).mono HBW3.out.size))).imp_ (Below.refl _ _) (fun _ _ hp => flatF.K.1 hp)) (fun _ _ hp => flatF.M.2 hp) (fun _ hk => hk.elim) (fun _ _ => trivial) B5.out (below_size B5.out) (by rw [List.length_nil, Nat.zero_add]; exact hbl) ?_; intro v6 w6 hoo_ hbb_ hg_ hat_; clear hg_ hat_; rw [List.nil_append] at hoo_; obtain ⟨A6, c6, rfl⟩ := Kd.R_slice hoo_; have O6 := Lib.hid hoo_; have B6 := Lib.hid hbb_; clear hoo_ hbb_))
      go_loopg [9, 10] ds.length (fun gg s9 s10 wq => ∃ (i : Nat) (L : List FileT) (A : Option Addr) (c : Nat), s9 = .slice A L.length c ∧ s10 = .int .i64 i ∧ i ≤ ds.length ∧ ds.length - i ≤ gg ∧ Aside (Kd.R k106 106 wq w4.heap.size (fun _ => True) (.slice A L.length c) L) ∧ Aside (Below w4.heap.size w4 wq) ∧ Aside (L.length ≤ l0.length + i) ∧ Aside (goS (ds.drop i) L = goS ds l0))
      case atStart => exact ⟨0, l0, A6, c6, rfl, rfl, Nat.zero_le _, by omega, Kd.R_lower O6.out BW.out.size, BW.out.trans (B6.out.mono BW.out.size), Nat.le_refl _, rfl⟩
      case round =>
        clear O6 B6 O5 B5 BW
        rename World => wq
        obtain ⟨i, L, A, c, rfl, rfl, hi2, hg2, OR, BQ, HL, HGS⟩ := hrel
        by_cases hlt2 : i < ds.length
        · have hmz : (0 : Int) ≤ (i : Int) := Int.natCast_nonneg i
          have hml : (i : Int) < (ds.length : Int) := by omega
          have HC1 := Lib.hid (fun V (h : Below wq.heap.size wq V) => Kd.C_below H1.out (HBW3.out.trans ((BQ.out.trans (h.mono BQ.out.size)).mono HBW3.out.size)))
          obtain ⟨d, hd⟩ : ∃ d, ds.getD i z108 = d := ⟨_, rfl⟩
          have HS := Lib.hid (goS_step ds i hlt2 L d hd)
          have hrd : rd_T108 ds (i : Int) = d := by
            rw [← hd]
            show ds.getD ((i : Int)).toNat _ = _
            rw [Int.toNat_natCast]
          have HRD := Lib.hid hrd
          clear hd hrd
          have hLb : L.length ≤ 1048576 := by have := HL.out; omega
          go_wp2_with (((with_reducible refine gate_dst (N := 97) rfl ?_); refine Kd.R_lit k106 _ 106 ?hg (N := 97) ?hd (xs := ([] : List FileT)) (inner := []) (ok := fun _ => True) (okp := fun _ => True) ?hr ?hp (fun _ hk => hk) trivial (Below.refl _ _) (Nat.le_refl _) (by simp) ?_; (case hd => rfl); (case hg => rfl); (case hr => first | (go_simp; done) | (go_simp; rfl)); (case hp => exact (Reps.none _ _)); intro v97 w7 hoo_ hbb_ hg_ hnew_; clear hg_ hnew_; obtain ⟨A97, c97, rfl⟩ := Kd.R_slice hoo_; have O7 := Lib.hid hoo_; have B7 := Lib.hid hbb_; clear hoo_ hbb_))
          go_loopg [11, 12] L.length (fun gg s11 s12 wp => ∃ (kk : Nat) (K : List FileT) (A2 : Option Addr) (c2 : Nat), s11 = .slice A2 K.length c2 ∧ s12 = .int .i64 kk ∧ kk ≤ L.length ∧ L.length - kk ≤ gg ∧ K.length ≤ kk ∧ Aside (Kd.R k106 106 wp wq.heap.size (fun _ => True) (.slice A2 K.length c2) K) ∧ Aside (Below wq.heap.size wq wp) ∧ Aside (K = without (L.take kk) d.f0))
          case atStart => exact ⟨0, [], A97, c97, rfl, rfl, Nat.zero_le _, by omega, Nat.le_refl _, O7.out, B7.out, rfl⟩
          case round =>
            clear O7 B7
            rename World => wp
            obtain ⟨kk, K, A2, c2, rfl, rfl, hk2, hg3, hKl, OK, BP, HK⟩ := hrel
            obtain ⟨ad, hA1, q0, q1, q2, q3, q4, q5, q6⟩ := at_T108 (HC1.out _ BP.out) (i : Int) hmz hml
            have hA1' := hA1
            subst hA1'
            rw [HRD.out] at q0 q1 q2 q3 q4 q5 q6
            rw [Int.toNat_natCast] at q0 q1 q2 q3 q4 q5 q6
            by_cases hlt3 : kk < L.length
            · clear q1 q2 q3 q4 q5 q6
              have hkz : (0 : Int) ≤ (kk : Int) := Int.natCast_nonneg kk
              have hkl : (kk : Int) < (L.length : Int) := by omega
              obtain ⟨a1, hA2, p0, p1, p2⟩ := at_T106 (Kd.R_reads' (Kd.R_below OR.out BP.out)).2.2 (kk : Int) hkz hkl
              subst hA2
              rw [rdFz, Int.toNat_natCast] at p0 p1 p2
              obtain ⟨x, hx⟩ : ∃ x, L.getD kk z106 = x := ⟨_, rfl⟩
              have HW := Lib.hid (without_snoc L d.f0 kk hlt3 x hx)
              rw [hx] at p0 p1 p2
              clear hx
              by_cases he : x.f0 = d.f0
              · have hne1 : (x.f0.toList != d.f0.toList) = false := by rw [he]; exact bne_self_eq_false _
                have hne0 : (x.f0.toList == d.f0.toList) = true := by rw [he]; exact beq_self_eq_true _
                have HKK := Lib.hid (show K = without (L.take (kk + 1)) d.f0 by rw [HW.out, if_pos he]; exact HK.out)
                clear he
                go_wp2
                go_quiet (fail)
                have B8 := Lib.hid (show Below wq.heap.size wq (wp.drewN nq) from pw_below_drewN BP.out nq)
                have O8 := Lib.hid (show Kd.R k106 106 (wp.drewN nq) wq.heap.size (fun _ => True) (.slice A2 K.length c2) K from Kd.R_drewN OK.out nq)
                generalize wp.drewN nq = w8 at B8 O8 ⊢
                clear p0 p1 p2 q0
                go_wp2
                go_roundg (L.length - (kk + 1))
                case measure => omega
                case rel => exact ⟨kk + 1, K, A2, c2, rfl, by go_num, by omega, by omega, by omega, O8.out, B8.out, HKK.out⟩
              · have hne1 : (x.f0.toList != d.f0.toList) = true := bne_iff_ne.mpr (fun z => he (YtjibadlbiapcmaaDoorX.toList_inj z))
                have hne0 : (x.f0.toList == d.f0.toList) = false := beq_eq_false_iff_ne.mpr (fun z => he (YtjibadlbiapcmaaDoorX.toList_inj z))
                have HKK := Lib.hid (show K ++ [x] = without (L.take (kk + 1)) d.f0 by rw [HW.out, if_neg he, HK.out])
                clear he
                go_wp2
                go_quiet (fail)
                have B8 := Lib.hid (show Below wq.heap.size wq (wp.drewN nq) from pw_below_drewN BP.out nq)
                have O8 := Lib.hid (show Kd.R k106 106 (wp.drewN nq) wq.heap.size (fun _ => True) (.slice A2 K.length c2) K from Kd.R_drewN OK.out nq)
                have u0 := kc p0 (pw_below_drewN (Below.refl _ _) nq)
                have u1 := kc p1 (pw_below_drewN (Below.refl _ _) nq)
                have u2 := kc p2 (pw_below_drewN (Below.refl _ _) nq)
                generalize wp.drewN nq = w8 at B8 O8 u0 u1 u2 ⊢
                clear p0 p1 p2 q0
                go_wp2_with (((with_reducible refine gate_builtin (b := .append) (xs := #[.tmp 115, .tmp 120]) rfl ?_); at_builtin; refine Kd.R_append k106 (w0 := wq) wq.heap.size rfl (.tmp 115) (.tmp 120) 24 106 (.agg #[.string ⟨#[]⟩, .int .i64 0, .string ⟨#[]⟩]) 40 rfl Tryd.underlying24 info106 rfl (by decide) (by decide) (.slice A2 K.length c2) K x [.string x.f0, .int .i64 x.f1, .string x.f2] (fun _ => True) (fun _ => False) rfl rfl (k106_mkM _ _ _ x) (fun _ hk => hk.elim) (fun _ _ => trivial) O8.out B8.out B8.out.size (by omega) ?_; intro v9 w9 hoo_ hbb_ hg_ hat_; clear hg_ hat_; obtain ⟨K9, hK9⟩ : ∃ q, K ++ [x] = q := ⟨_, rfl⟩; rw [hK9] at hoo_; have HK9 := Lib.hid hK9; have HLEN := Lib.hid (show K9.length = K.length + 1 from (by rw [← hK9, List.length_append, List.length_singleton])); clear hK9; obtain ⟨A_v9, c_v9, rfl⟩ := Kd.R_slice hoo_; have O9 := Lib.hid hoo_; have B9 := Lib.hid hbb_; clear hoo_ hbb_))
                go_roundg (L.length - (kk + 1))
                case measure => omega
                case rel => exact ⟨kk + 1, K9, A_v9, c_v9, rfl, by go_num, by omega, by omega, by have := HLEN.out; omega, O9.out, B9.out, HK9.out.symm.trans HKK.out⟩
            · have hke : kk = L.length := by omega
              subst hke
              have hKW : K = without L d.f0 := by rw [HK.out, List.take_length]
              obtain ⟨ez2, hez2⟩ : ∃ b, eqF d.f2 z106 = b := ⟨_, rfl⟩
              have hzz2 : ∀ (q : Nat) (W : World), (Op.equalIn (q + 2) 106 (.agg #[.string d.f2.f0, .int .i64 d.f2.f1, .string d.f2.f2]) (.agg #[.string ⟨#[]⟩, .int .i64 0, .string ⟨#[]⟩])).run Tryd.prog W = .ok ez2 W := fun q W => (eqA106 q W _ _ _ _ _ _).trans (by rw [← hez2]; rfl)
              have hnk := blk_below HNK.out (BQ.out.trans (BP.out.mono BQ.out.size))
              have n0 : wp.cell? ⟨gn, 0, none⟩ = some (.string ⟨#[]⟩) := (blk_cell hnk 0).trans rfl
              have n1 : wp.cell? ⟨gn, 1, none⟩ = some (.int .i64 0) := (blk_cell hnk 1).trans rfl
              have n2 : wp.cell? ⟨gn, 2, none⟩ = some (.string ⟨#[]⟩) := (blk_cell hnk 2).trans rfl
              have hWS : withS L d.f0 d.f2 = sortF (if ez2 = true then without L d.f0 else without L d.f0 ++ [d.f2]) := by rw [← hez2]; rfl
              rw [← hKW] at hWS
              have HWS := Lib.hid hWS
              have HGN2 := Lib.hid (HS.out.symm.trans HGS.out)
              have hl2 := withS_len L d.f0 d.f2
              have HL2 := Lib.hid (show (withS L d.f0 d.f2).length ≤ l0.length + (i + 1) by have := HL.out; omega)
              clear q0 q1 q2 q3 hnk hKW hez2 hWS hl2
              cases ez2 with
              | true =>
                go_wp2
                go_quiet (fail)
                have B8 := Lib.hid (show Below wq.heap.size wq (wp.drewN nq) from pw_below_drewN BP.out nq)
                have O8 := Lib.hid (show Kd.R k106 106 (wp.drewN nq) wq.heap.size (fun _ => True) (.slice A2 K.length c2) K from Kd.R_drewN OK.out nq)
                generalize wp.drewN nq = w8 at B8 O8 ⊢
                clear q4 q5 q6 n0 n1 n2
                go_wp2_with (go_at_call 78; (with_reducible refine (sortF_calls A2 c2 K w8 (Kd.R_reads' O8.out).2.2 (by omega)).mono ?_); rintro e w9 ⟨v9, rfl, hoo_, hbb_⟩; obtain ⟨A9, c9, rfl⟩ := Kd.R_slice hoo_; have O9 := Lib.hid hoo_; have B9 := Lib.hid hbb_; clear hoo_ hbb_)
                have hws := HWS.out
                simp only [if_true] at hws
                have HWW := Lib.hid hws
                clear hws HWS
                go_roundg (ds.length - (i + 1))
                case measure => omega
                case rel => exact ⟨i + 1, sortF K, A9, c9, rfl, by go_num, by omega, by omega, Kd.R_lower O9.out (Nat.le_trans BQ.out.size B8.out.size), BQ.out.trans ((B8.out.trans (B9.out.mono B8.out.size)).mono BQ.out.size), by rw [← HWW.out]; exact HL2.out, by rw [← HWW.out]; exact HGN2.out⟩
              | false =>
                go_wp2
                go_quiet (fail)
                have B8 := Lib.hid (show Below wq.heap.size wq (wp.drewN nq) from pw_below_drewN BP.out nq)
                have O8 := Lib.hid (show Kd.R k106 106 (wp.drewN nq) wq.heap.size (fun _ => True) (.slice A2 K.length c2) K from Kd.R_drewN OK.out nq)
                have u4 := kc q4 (pw_below_drewN (Below.refl _ _) nq)
                have u5 := kc q5 (pw_below_drewN (Below.refl _ _) nq)
                have u6 := kc q6 (pw_below_drewN (Below.refl _ _) nq)
                generalize wp.drewN nq = w8 at B8 O8 u4 u5 u6 ⊢
                clear q4 q5 q6 n0 n1 n2
                go_wp2_with (first
                  | ((with_reducible refine gate_builtin (b := .append) (xs := #[.tmp 129, .tmp 135]) rfl ?_); at_builtin; refine Kd.R_append k106 (w0 := wq) wq.heap.size rfl (.tmp 129) (.tmp 135) 24 106 (.agg #[.string ⟨#[]⟩, .int .i64 0, .string ⟨#[]⟩]) 40 rfl Tryd.underlying24 info106 rfl (by decide) (by decide) (.slice A2 K.length c2) K d.f2 [.string d.f2.f0, .int .i64 d.f2.f1, .string d.f2.f2] (fun _ => True) (fun _ => False) rfl rfl (k106_mkM _ _ _ d.f2) (fun _ hk => hk.elim) (fun _ _ => trivial) O8.out B8.out B8.out.size (by omega) ?_; intro v9 w9 hoo_ hbb_ hg_ hat_; clear hg_ hat_; obtain ⟨K9, hK9⟩ : ∃ q, K ++ [d.f2] = q := ⟨_, rfl⟩; rw [hK9] at hoo_; have HK9 := Lib.hid hK9; have HLEN := Lib.hid (show K9.length = K.length + 1 from (by rw [← hK9, List.length_append, List.length_singleton])); clear hK9; obtain ⟨A_v9, c_v9, rfl⟩ := Kd.R_slice hoo_; have O9 := Lib.hid hoo_; have B9 := Lib.hid hbb_; clear hoo_ hbb_)
                  | (go_at_call 78; (with_reducible refine (sortF_calls A_v9 c_v9 K9 w9 (Kd.R_reads' O9.out).2.2 (by have := HLEN.out; have := HL.out; omega)).mono ?_); rintro e w10 ⟨v10, rfl, hoo_, hbb_⟩; obtain ⟨A10, c10, rfl⟩ := Kd.R_slice hoo_; have O10 := Lib.hid hoo_; have B10 := Lib.hid hbb_; clear hoo_ hbb_))
                have hws := HWS.out
                simp only [if_false, Bool.false_eq_true] at hws
                rw [HK9.out] at hws
                have HWW := Lib.hid hws
                clear hws HWS
                go_roundg (ds.length - (i + 1))
                case measure => omega
                case rel => exact ⟨i + 1, sortF K9, A10, c10, rfl, by go_num, by omega, by omega, Kd.R_lower O10.out (Nat.le_trans BQ.out.size B9.out.size), BQ.out.trans ((B9.out.trans (B10.out.mono B9.out.size)).mono BQ.out.size), by rw [← HWW.out]; exact HL2.out, by rw [← HWW.out]; exact HGN2.out⟩
        · have hie2 : i = ds.length := by omega
          subst hie2
          have hLL : L = goS ds l0 := by rw [← HGS.out, List.drop_length]; rfl
          have hq1 := HQ1.out
          have hq2 := HQ2.out
          rw [← hLL] at hq1 hq2
          have HQ3 := Lib.hid hq1
          have hcap := (Kd.R_reads' OR.out).2.1
          have HCAP := Lib.hid hcap
          clear hLL hq1 HQ1 HQ2 hcap
          by_cases hz : qq = 0
          · rw [if_pos hz] at hq2
            obtain ⟨hr1, hr2⟩ := Prod.mk.inj hq2
            subst hz hr1 hr2
            clear hq2
            go_wp2_with (go_at_call 51; (with_reducible refine (spec_FilesFault.calls k A c L 0 wq (Kd.R_reads' OR.out).2.2 HCAP.out HQ3.out).mono ?_); rintro e w8 ⟨rfl, hbb_⟩; have hrr := blk_below HG3.out (BQ.out.trans (hbb_.mono BQ.out.size)); have z0 : w8.cell? ⟨gr, 0, none⟩ = some (.int .i64 0) := (blk_cell hrr 0).trans rfl; have z1 : w8.cell? ⟨gr, 1, none⟩ = some (.slice none 0 0) := (blk_cell hrr 1).trans rfl; have f0 := blk_frozen hrr 0; have f1 := blk_frozen hrr 1; have R9 := Lib.hid hrr; have B8 := Lib.hid hbb_; have O8 := Lib.hid (Kd.R_below OR.out hbb_); clear hrr hbb_)
            have hgr : w.heap.size ≤ gr := Nat.le_of_eq HGR.out.symm
            have hlt4 : gr < w4.heap.size := (Array.getElem?_eq_some_iff.1 HG3.out).1
            refine bodyPost_ret (results_cell_row rfl _ _ gr 26 #[.int .i64 0, .slice A L.length c] (0, 0) _ rfl (blk_set (blk_set R9.out 0 (.int .i64 0)) 1 (.slice A L.length c)) Tryd.underlying26 rfl (by kernel_rfl)) rfl ?_
            exact ⟨_, rfl, Kd.R_lower (R_awayF (R_awayF O8.out hlt4 _) hlt4 _) HBW3.out.size, below_set (below_set (HBW3.out.trans ((BQ.out.trans (B8.out.mono BQ.out.size)).mono HBW3.out.size)) hgr) hgr⟩
          · rw [if_neg hz] at hq2
            obtain ⟨hr1, hr2⟩ := Prod.mk.inj hq2
            subst hr1 hr2
            have hz1 : (qq != 0) = true := bne_iff_ne.mpr hz
            have hz2 : (qq == 0) = false := beq_eq_false_iff_ne.mpr hz
            clear hq2 hz
            go_wp2_with (go_at_call 51; (with_reducible refine (spec_FilesFault.calls k A c L qq wq (Kd.R_reads' OR.out).2.2 HCAP.out HQ3.out).mono ?_); rintro e w8 ⟨rfl, hbb_⟩; have hrr := blk_below HG3.out (BQ.out.trans (hbb_.mono BQ.out.size)); have z0 : w8.cell? ⟨gr, 0, none⟩ = some (.int .i64 0) := (blk_cell hrr 0).trans rfl; have z1 : w8.cell? ⟨gr, 1, none⟩ = some (.slice none 0 0) := (blk_cell hrr 1).trans rfl; have f0 := blk_frozen hrr 0; have f1 := blk_frozen hrr 1; have R9 := Lib.hid hrr; have B8 := Lib.hid hbb_; clear hrr hbb_)
            have hgr : w.heap.size ≤ gr := Nat.le_of_eq HGR.out.symm
            refine bodyPost_ret (results_cell_row rfl _ _ gr 26 #[.int .i64 qq, .slice none 0 0] (0, 0) _ rfl (blk_set (blk_set R9.out 0 (.int .i64 qq)) 1 (.slice none 0 0)) Tryd.underlying26 rfl (by kernel_rfl)) rfl ?_
            exact ⟨_, rfl, Kd.R_nil _ _ _ _ _, below_set (below_set (HBW3.out.trans ((BQ.out.trans (B8.out.mono BQ.out.size)).mono HBW3.out.size)) hgr) hgr⟩
end Go.Proofs.YtjibadlbiapcmaaDoor.PX.X

namespace Go.Proofs.YtjibadlbiapcmaaDoor.PX
open Go.RowKit Go.Proofs.YtjibadlbiapcmaaDoorW.PrintWords Go.Proofs.YtjibadlbiapcmaaDoorW.PrintLast Go.Proofs.YtjibadlbiapcmaaDoorW.PrintMore
attribute [local go_sem] max2_int min2_int max_two min_two max_three min_three max_four min_four   -- for this text's walks alone
set_option linter.unusedVariables false
set_option linter.unusedSimpArgs false

/-! ### spec_ApplyDeltas: function 32 -/
def spec_ApplyDeltas.f (k : Nat) (l0 : List X.FileT) (l1 : List X.DeltaT) : Option (Int × List X.FileT) :=
 if l0.length + l1.length ≤ 1048576 then (if l0.length < k then ((spec_FilesFault.f k l0).bind fun c => if c = 0 then (if X.chkS l0 none l1 = 0 then ((spec_FilesFault.f k (X.goS l1 l0)).bind fun q => some (if q = 0 then ((0 : Int), X.goS l1 l0) else (q, []))) else some (X.chkS l0 none l1, [])) else some (c, [])) else none) else none
theorem spec_ApplyDeltas.mono : ∀ a0 a1 k, LeO (spec_ApplyDeltas.f k a0 a1) (spec_ApplyDeltas.f (k + 1) a0 a1) := by
 intro a0 a1 k
 unfold spec_ApplyDeltas.f
 refine LeO.ite ?_ (LeO.none _)
 by_cases hk : a0.length < k
 ·
  rw [if_pos hk, if_pos (show a0.length < k + 1 by omega)]
  refine LeO.bind (spec_FilesFault.mono _ _) (fun c => LeO.ite (LeO.ite (LeO.bind (spec_FilesFault.mono _ _) (fun q => LeO.refl _)) (LeO.refl _)) (LeO.refl _))
 ·
  rw [if_neg hk]
  exact LeO.none _
theorem spec_ApplyDeltas.calls (k : Nat) (A0 : Option Addr) (c0 : Nat) (l0 : List X.FileT) (A1 : Option Addr) (c1 : Nat) (l1 : List X.DeltaT) (r1 : Int) (r2 : List X.FileT) (w : World) (hr0 : Kd.C k106 w A0 l0.length l0) (hc0 : l0.length ≤ c0) (hr1 : Kd.C k108 w A1 l1.length l1) (hc1 : l1.length ≤ c1) (h : spec_ApplyDeltas.f k l0 l1 = some (r1, r2)) :
  Calls Tryd.prog 32 #[.slice A0 l0.length c0, .slice A1 l1.length c1] w fun e w' => ∃ v1_ : Value, e = .returned (.agg #[.int .i64 r1, v1_]) ∧ Kd.R k106 106 w' w.heap.size (fun _ => True) v1_ r2 ∧ Below w.heap.size w w' := by
 unfold spec_ApplyDeltas.f at h
 by_cases hb : l0.length + l1.length ≤ 1048576
 ·
  rw [if_pos hb] at h
  by_cases hk : l0.length < k
  ·
   rw [if_pos hk] at h
   obtain ⟨c, hF, h⟩ := Option.bind_eq_some_iff.mp h
   by_cases hc : c = 0
   ·
    rw [if_pos hc] at h
    refine X.appS_calls k A0 c0 l0 A1 c1 l1 w hr0 hc0 hr1 hc1 hb hk c hF hc r1 r2 (fun hz => ?_) (fun q hq hz => ?_)
    ·
     rw [if_pos hz] at h
     obtain ⟨q, hq, h⟩ := Option.bind_eq_some_iff.mp h
     exact ⟨q, hq, Option.some.inj h⟩
    ·
     rw [hz, if_neg hq] at h
     exact Option.some.inj h
   ·
    rw [if_neg hc] at h
    obtain ⟨rfl, rfl⟩ := Prod.mk.inj (Option.some.inj h)
    exact X.appS_fault k A0 c0 l0 A1 c1 l1 w hr0 hc0 c hF hc
  ·
   rw [if_neg hk] at h
   cases h
 ·
  rw [if_neg hb] at h
  cases h


/-! ### laws_FnExactApplyDeltas: function 6 -/
def laws_FnExactApplyDeltas.j0 : Nat → List (S102) → List (S105) → Bool → Int → List (S106) → Int → List (S106) → Option (Bool)
 | 0, _, _, _, _, _, _, _ => none
 | k + 1, x0, x1, x63, x248000, x248001, x259000, x259001 => if x63 = true then (some false) else ((laws_markFilesResult.f k x259000 x259001 1).bind fun bt273 => ((laws_heldFilesResult.f k x259000 bt273.2 1).bind fun t275 => (if t275 < 0 then (some false) else (if t275 = bt273.1 then ((laws_toFileS.f k x0).bind fun t276 => ((laws_toDeltaS.f k x1).bind fun t279 => ((impl_ApplyDeltas.f k t276 t279).bind fun bt282 => ((laws_eqFilesResult.f k bt282.1 bt282.2 x248000 x248001).bind fun t287 => (if t287 = true then ((laws_heldFilesResult.f k x259000 bt273.2 1).bind fun t288 => (if t288 < 0 then (some false) else (if t288 = bt273.1 then (some true) else (some false)))) else (some false)))))) else (some false)))))
def laws_FnExactApplyDeltas.f (k : Nat) (l0 : List (S102)) (l1 : List (S105)) : Option (Bool) := (laws_szFileS.f k l0 1048576).bind fun t235 => (if t235 < 0 then (some true) else ((laws_szDeltaS.f k l1 t235).bind fun t236 => (if t236 < 0 then (some true) else ((laws_toFileS.f k l0).bind fun t237 => ((laws_toDeltaS.f k l1).bind fun t240 => ((spec_ApplyDeltas.f k t237 t240).bind fun bt243 => ((laws_toFileS.f k l0).bind fun t248 => ((laws_toDeltaS.f k l1).bind fun t251 => ((impl_ApplyDeltas.f k t248 t251).bind fun bt254 => ((laws_eqFilesResult.f k bt254.1 bt254.2 bt243.1 bt243.2).bind fun t259 => (if t259 = true then ((laws_toFileS.f k l0).bind fun t260 => ((laws_eqFileS.f k t248 t260).bind fun t263 => (if t263 = true then ((laws_toDeltaS.f k l1).bind fun t264 => ((laws_eqDeltaS.f k t251 t264).bind fun t267 => (if t267 = true then ((laws_markFileS.f k t248 1).bind fun bt268 => ((laws_markDeltaS.f t251 bt268.1).bind fun bt270 => (if bt270.1 < 0 then (laws_FnExactApplyDeltas.j0 k l0 l1 true bt243.1 bt243.2 bt254.1 bt254.2) else ((laws_eqFilesResult.f k bt254.1 bt254.2 bt243.1 bt243.2).bind fun t272 => (laws_FnExactApplyDeltas.j0 k l0 l1 (!t272) bt243.1 bt243.2 bt254.1 bt254.2))))) else (some false)))) else (some false)))) else (some false))))))))))))
theorem laws_FnExactApplyDeltas.mono_l : ∀ k, (∀ y0 y1 y2 y3 y4 y5 y6, LeO (laws_FnExactApplyDeltas.j0 k y0 y1 y2 y3 y4 y5 y6) (laws_FnExactApplyDeltas.j0 (k + 1) y0 y1 y2 y3 y4 y5 y6))
 | 0 => fun _ _ _ _ _ _ _ r h => by simp [laws_FnExactApplyDeltas.j0] at h
 | k + 1 => by
  have ih0 := laws_FnExactApplyDeltas.mono_l k
  ·
   intro y0 y1 y2 y3 y4 y5 y6
   unfold laws_FnExactApplyDeltas.j0
   repeat' first
   | (with_reducible exact ih0 _ _ _ _ _ _ _)
   | (with_reducible exact impl_ApplyDeltas.mono _ _ _)
   | (with_reducible exact laws_eqDeltaS.mono _ _ _)
   | (with_reducible exact laws_eqFileS.mono _ _ _)
   | (with_reducible exact laws_eqFilesResult.mono _ _ _ _ _)
   | (with_reducible exact laws_heldFilesResult.mono _ _ _ _)
   | (with_reducible exact laws_markFileS.mono _ _ _)
   | (with_reducible exact laws_markFilesResult.mono _ _ _ _)
   | (with_reducible exact laws_szDeltaS.mono _ _ _)
   | (with_reducible exact laws_szFileS.mono _ _ _)
   | (with_reducible exact laws_toDeltaS.mono _ _)
   | (with_reducible exact laws_toFileS.mono _ _)
   | (with_reducible exact spec_ApplyDeltas.mono _ _ _)
   | (with_reducible exact LeO.refl _)
   | (with_reducible exact LeO.none _)
   | (with_reducible refine LeO.ite ?_ ?_)
   | (with_reducible refine LeO.bind ?_ (fun _ => ?_))
   | exact ih0 _ _ _ _ _ _ _
   | exact impl_ApplyDeltas.mono _ _ _
   | exact laws_eqDeltaS.mono _ _ _
   | exact laws_eqFileS.mono _ _ _
   | exact laws_eqFilesResult.mono _ _ _ _ _
   | exact laws_heldFilesResult.mono _ _ _ _
   | exact laws_markFileS.mono _ _ _
   | exact laws_markFilesResult.mono _ _ _ _
   | exact laws_szDeltaS.mono _ _ _
   | exact laws_szFileS.mono _ _ _
   | exact laws_toDeltaS.mono _ _
   | exact laws_toFileS.mono _ _
   | exact spec_ApplyDeltas.mono _ _ _
   | exact LeO.none _
   | refine LeO.ite ?_ ?_
   | refine LeO.bind ?_ (fun _ => ?_)
theorem laws_FnExactApplyDeltas.mono : ∀ a0 a1 k, LeO (laws_FnExactApplyDeltas.f k a0 a1) (laws_FnExactApplyDeltas.f (k + 1) a0 a1) := by
 intro a0 a1 k
 have ih0 := laws_FnExactApplyDeltas.mono_l k
 unfold laws_FnExactApplyDeltas.f
 repeat' first
   | (with_reducible exact ih0 _ _ _ _ _ _ _)
   | (with_reducible exact impl_ApplyDeltas.mono _ _ _)
   | (with_reducible exact laws_eqDeltaS.mono _ _ _)
   | (with_reducible exact laws_eqFileS.mono _ _ _)
   | (with_reducible exact laws_eqFilesResult.mono _ _ _ _ _)
   | (with_reducible exact laws_heldFilesResult.mono _ _ _ _)
   | (with_reducible exact laws_markFileS.mono _ _ _)
   | (with_reducible exact laws_markFilesResult.mono _ _ _ _)
   | (with_reducible exact laws_szDeltaS.mono _ _ _)
   | (with_reducible exact laws_szFileS.mono _ _ _)
   | (with_reducible exact laws_toDeltaS.mono _ _)
   | (with_reducible exact laws_toFileS.mono _ _)
   | (with_reducible exact spec_ApplyDeltas.mono _ _ _)
   | (with_reducible exact LeO.refl _)
   | (with_reducible exact LeO.none _)
   | (with_reducible refine LeO.ite ?_ ?_)
   | (with_reducible refine LeO.bind ?_ (fun _ => ?_))
   | exact ih0 _ _ _ _ _ _ _
   | exact impl_ApplyDeltas.mono _ _ _
   | exact laws_eqDeltaS.mono _ _ _
   | exact laws_eqFileS.mono _ _ _
   | exact laws_eqFilesResult.mono _ _ _ _ _
   | exact laws_heldFilesResult.mono _ _ _ _
   | exact laws_markFileS.mono _ _ _
   | exact laws_markFilesResult.mono _ _ _ _
   | exact laws_szDeltaS.mono _ _ _
   | exact laws_szFileS.mono _ _ _
   | exact laws_toDeltaS.mono _ _
   | exact laws_toFileS.mono _ _
   | exact spec_ApplyDeltas.mono _ _ _
   | exact LeO.none _
   | refine LeO.ite ?_ ?_
   | refine LeO.bind ?_ (fun _ => ?_)
set_option maxHeartbeats 8000000 in
set_option maxRecDepth 100000 in
theorem laws_FnExactApplyDeltas.calls (k : Nat) (A0 : Option Addr) (c0 : Nat) (l0 : List (S102)) (A1 : Option Addr) (c1 : Nat) (l1 : List (S105)) (r : Bool) (w : World) (hr0 : Kd.C k102 w A0 l0.length l0) (hc0 : l0.length ≤ c0) (hr1 : Kd.C k105 w A1 l1.length l1) (hc1 : l1.length ≤ c1) (h : laws_FnExactApplyDeltas.f k l0 l1 = some r) (hT_ : r = true := by rfl) :
  Calls Tryd.prog 6 #[.slice A0 l0.length c0, .slice A1 l1.length c1] w fun e w' => e = .returned (.bool r) ∧ Below w.heap.size w w' := by
 have hu26 := Tryd.underlying26
 have HR0 := zK hr0
 have HC0 := zK hc0
 clear hr0 hc0
 have HR1 := zK hr1
 have HC1 := zK hc1
 clear hr1 hc1
 have HB := zK (Below.refl w.heap.size w)
 have H : ((laws_szFileS.f k l0 1048576).bind fun t235 => (if t235 < 0 then (some true) else ((laws_szDeltaS.f k l1 t235).bind fun t236 => (if t236 < 0 then (some true) else ((laws_toFileS.f k l0).bind fun t237 => ((laws_toDeltaS.f k l1).bind fun t240 => ((spec_ApplyDeltas.f k t237 t240).bind fun bt243 => ((laws_toFileS.f k l0).bind fun t248 => ((laws_toDeltaS.f k l1).bind fun t251 => ((impl_ApplyDeltas.f k t248 t251).bind fun bt254 => ((laws_eqFilesResult.f k bt254.1 bt254.2 bt243.1 bt243.2).bind fun t259 => (if t259 = true then ((laws_toFileS.f k l0).bind fun t260 => ((laws_eqFileS.f k t248 t260).bind fun t263 => (if t263 = true then ((laws_toDeltaS.f k l1).bind fun t264 => ((laws_eqDeltaS.f k t251 t264).bind fun t267 => (if t267 = true then ((laws_markFileS.f k t248 1).bind fun bt268 => ((laws_markDeltaS.f t251 bt268.1).bind fun bt270 => (if bt270.1 < 0 then (laws_FnExactApplyDeltas.j0 k l0 l1 true bt243.1 bt243.2 bt254.1 bt254.2) else ((laws_eqFilesResult.f k bt254.1 bt254.2 bt243.1 bt243.2).bind fun t272 => (laws_FnExactApplyDeltas.j0 k l0 l1 (!t272) bt243.1 bt243.2 bt254.1 bt254.2))))) else (some false)))) else (some false)))) else (some false))))))))))))) = some r := h
 clear h
 replace H := Option.bind_eq_some_iff.mp H
 obtain ⟨t235, A30, H⟩ := H
 replace H : (if t235 < 0 then (some true) else ((laws_szDeltaS.f k l1 t235).bind fun t236 => (if t236 < 0 then (some true) else ((laws_toFileS.f k l0).bind fun t237 => ((laws_toDeltaS.f k l1).bind fun t240 => ((spec_ApplyDeltas.f k t237 t240).bind fun bt243 => ((laws_toFileS.f k l0).bind fun t248 => ((laws_toDeltaS.f k l1).bind fun t251 => ((impl_ApplyDeltas.f k t248 t251).bind fun bt254 => ((laws_eqFilesResult.f k bt254.1 bt254.2 bt243.1 bt243.2).bind fun t259 => (if t259 = true then ((laws_toFileS.f k l0).bind fun t260 => ((laws_eqFileS.f k t248 t260).bind fun t263 => (if t263 = true then ((laws_toDeltaS.f k l1).bind fun t264 => ((laws_eqDeltaS.f k t251 t264).bind fun t267 => (if t267 = true then ((laws_markFileS.f k t248 1).bind fun bt268 => ((laws_markDeltaS.f t251 bt268.1).bind fun bt270 => (if bt270.1 < 0 then (laws_FnExactApplyDeltas.j0 k l0 l1 true bt243.1 bt243.2 bt254.1 bt254.2) else ((laws_eqFilesResult.f k bt254.1 bt254.2 bt243.1 bt243.2).bind fun t272 => (laws_FnExactApplyDeltas.j0 k l0 l1 (!t272) bt243.1 bt243.2 bt254.1 bt254.2))))) else (some false)))) else (some false)))) else (some false)))))))))))) = some r := H
 have A3 := zK A30
 clear A30
 by_cases c4 : t235 < 0
 ·
  rw [if_pos c4] at H
  have c4b0 : decide (t235 < 0) = true := decide_eq_true c4
  clear c4
  obtain rfl := Option.some.inj H
  go_enter Tryd.func6, Tryd.ntmps6
  go_wp2_with (first | ((with_reducible refine gate_callee (f := 30) rfl ?_); refine goesL_ (some 16) rfl rfl Tryd.func30 (by kernel_rfl) rfl #[.slice A0 l0.length c0, .int .i64 1048576] rfl (by (try simp only [List.map_toArray, List.map_cons, List.map_nil]); first | done | rfl | (simp only [List.length_drop, List.length_take]; rfl)) ?_; (with_reducible refine (laws_szFileS.calls k _ _ l0 1048576 t235 _ ?side1 ?side2 A3.out).mono ?_); (case side1 => repeat (first | exact HR0.out | (with_reducible refine Kd.C_alloc ?_ _) | (with_reducible refine Kd.C_drewN ?_ _) | (with_reducible refine Kd.C_drew ?_))); (case side2 => exact HC0.out); rintro e w5 ⟨rfl, hb⟩; refine ⟨_, rfl, ?_⟩; have n0_ := zK (below_step (by repeat (first | (with_reducible first | exact HB.out | apply zA | apply zN | apply zD) | exact HB.out)) hb); clear HB; have HB := n0_; clear n0_; (try clear hb); (try clear hb2); (try clear hk); (try clear hi)))
  go_ret
  exact ⟨by first | rfl | (simp [errW_none, errW_some] <;> rfl) | (simp [*, errW_none, errW_some] <;> rfl), by repeat (first | (with_reducible first | exact HB.out | apply zA | apply zN | apply zD) | exact HB.out)⟩
 ·
  rw [if_neg c4] at H
  have c4b0 : decide (t235 < 0) = false := decide_eq_false c4
  clear c4
  replace H := Option.bind_eq_some_iff.mp H
  obtain ⟨t236, A60, H⟩ := H
  replace H : (if t236 < 0 then (some true) else ((laws_toFileS.f k l0).bind fun t237 => ((laws_toDeltaS.f k l1).bind fun t240 => ((spec_ApplyDeltas.f k t237 t240).bind fun bt243 => ((laws_toFileS.f k l0).bind fun t248 => ((laws_toDeltaS.f k l1).bind fun t251 => ((impl_ApplyDeltas.f k t248 t251).bind fun bt254 => ((laws_eqFilesResult.f k bt254.1 bt254.2 bt243.1 bt243.2).bind fun t259 => (if t259 = true then ((laws_toFileS.f k l0).bind fun t260 => ((laws_eqFileS.f k t248 t260).bind fun t263 => (if t263 = true then ((laws_toDeltaS.f k l1).bind fun t264 => ((laws_eqDeltaS.f k t251 t264).bind fun t267 => (if t267 = true then ((laws_markFileS.f k t248 1).bind fun bt268 => ((laws_markDeltaS.f t251 bt268.1).bind fun bt270 => (if bt270.1 < 0 then (laws_FnExactApplyDeltas.j0 k l0 l1 true bt243.1 bt243.2 bt254.1 bt254.2) else ((laws_eqFilesResult.f k bt254.1 bt254.2 bt243.1 bt243.2).bind fun t272 => (laws_FnExactApplyDeltas.j0 k l0 l1 (!t272) bt243.1 bt243.2 bt254.1 bt254.2))))) else (some false)))) else (some false)))) else (some false)))))))))) = some r := H
  have A6 := zK A60
  clear A60
  by_cases c7 : t236 < 0
  ·
   rw [if_pos c7] at H
   have c7b0 : decide (t236 < 0) = true := decide_eq_true c7
   clear c7
   obtain rfl := Option.some.inj H
   go_enter Tryd.func6, Tryd.ntmps6
   go_wp2_with (first | ((with_reducible refine gate_callee (f := 30) rfl ?_); refine goesL_ (some 16) rfl rfl Tryd.func30 (by kernel_rfl) rfl #[.slice A0 l0.length c0, .int .i64 1048576] rfl (by (try simp only [List.map_toArray, List.map_cons, List.map_nil]); first | done | rfl | (simp only [List.length_drop, List.length_take]; rfl)) ?_; (with_reducible refine (laws_szFileS.calls k _ _ l0 1048576 t235 _ ?side1 ?side2 A3.out).mono ?_); (case side1 => repeat (first | exact HR0.out | (with_reducible refine Kd.C_alloc ?_ _) | (with_reducible refine Kd.C_drewN ?_ _) | (with_reducible refine Kd.C_drew ?_))); (case side2 => exact HC0.out); rintro e w8 ⟨rfl, hb⟩; refine ⟨_, rfl, ?_⟩; have n0_ := zK (below_step (by repeat (first | (with_reducible first | exact HB.out | apply zA | apply zN | apply zD) | exact HB.out)) hb); clear HB; have HB := n0_; clear n0_; (try clear hb); (try clear hb2); (try clear hk); (try clear hi)) | ((with_reducible refine gate_callee (f := 31) rfl ?_); refine goesL_ (some 21) rfl rfl Tryd.func31 (by kernel_rfl) rfl #[.slice A1 l1.length c1, .int .i64 t235] rfl (by (try simp only [List.map_toArray, List.map_cons, List.map_nil]); first | done | rfl | (simp only [List.length_drop, List.length_take]; rfl)) ?_; (with_reducible refine (laws_szDeltaS.calls k _ _ l1 t235 t236 _ ?side1 ?side2 A6.out).mono ?_); (case side1 => repeat (first | exact (Kd.C_below HR1.out HB.out) | (with_reducible refine Kd.C_alloc ?_ _) | (with_reducible refine Kd.C_drewN ?_ _) | (with_reducible refine Kd.C_drew ?_))); (case side2 => exact HC1.out); rintro e w9 ⟨rfl, hb⟩; refine ⟨_, rfl, ?_⟩; have n0_ := zK (below_step (by repeat (first | (with_reducible first | exact HB.out | apply zA | apply zN | apply zD) | exact HB.out)) hb); clear HB; have HB := n0_; clear n0_; (try clear hb); (try clear hb2); (try clear hk); (try clear hi)))
   go_ret
   exact ⟨by first | rfl | (simp [errW_none, errW_some] <;> rfl) | (simp [*, errW_none, errW_some] <;> rfl), by repeat (first | (with_reducible first | exact HB.out | apply zA | apply zN | apply zD) | exact HB.out)⟩
  ·
   rw [if_neg c7] at H
   have c7b0 : decide (t236 < 0) = false := decide_eq_false c7
   clear c7
   replace H := Option.bind_eq_some_iff.mp H
   obtain ⟨t237, A100, H⟩ := H
   replace H : ((laws_toDeltaS.f k l1).bind fun t240 => ((spec_ApplyDeltas.f k t237 t240).bind fun bt243 => ((laws_toFileS.f k l0).bind fun t248 => ((laws_toDeltaS.f k l1).bind fun t251 => ((impl_ApplyDeltas.f k t248 t251).bind fun bt254 => ((laws_eqFilesResult.f k bt254.1 bt254.2 bt243.1 bt243.2).bind fun t259 => (if t259 = true then ((laws_toFileS.f k l0).bind fun t260 => ((laws_eqFileS.f k t248 t260).bind fun t263 => (if t263 = true then ((laws_toDeltaS.f k l1).bind fun t264 => ((laws_eqDeltaS.f k t251 t264).bind fun t267 => (if t267 = true then ((laws_markFileS.f k t248 1).bind fun bt268 => ((laws_markDeltaS.f t251 bt268.1).bind fun bt270 => (if bt270.1 < 0 then (laws_FnExactApplyDeltas.j0 k l0 l1 true bt243.1 bt243.2 bt254.1 bt254.2) else ((laws_eqFilesResult.f k bt254.1 bt254.2 bt243.1 bt243.2).bind fun t272 => (laws_FnExactApplyDeltas.j0 k l0 l1 (!t272) bt243.1 bt243.2 bt254.1 bt254.2))))) else (some false)))) else (some false)))) else (some false)))))))) = some r := H
   have A10 := zK A100
   clear A100
   replace H := Option.bind_eq_some_iff.mp H
   obtain ⟨t240, A110, H⟩ := H
   replace H : ((spec_ApplyDeltas.f k t237 t240).bind fun bt243 => ((laws_toFileS.f k l0).bind fun t248 => ((laws_toDeltaS.f k l1).bind fun t251 => ((impl_ApplyDeltas.f k t248 t251).bind fun bt254 => ((laws_eqFilesResult.f k bt254.1 bt254.2 bt243.1 bt243.2).bind fun t259 => (if t259 = true then ((laws_toFileS.f k l0).bind fun t260 => ((laws_eqFileS.f k t248 t260).bind fun t263 => (if t263 = true then ((laws_toDeltaS.f k l1).bind fun t264 => ((laws_eqDeltaS.f k t251 t264).bind fun t267 => (if t267 = true then ((laws_markFileS.f k t248 1).bind fun bt268 => ((laws_markDeltaS.f t251 bt268.1).bind fun bt270 => (if bt270.1 < 0 then (laws_FnExactApplyDeltas.j0 k l0 l1 true bt243.1 bt243.2 bt254.1 bt254.2) else ((laws_eqFilesResult.f k bt254.1 bt254.2 bt243.1 bt243.2).bind fun t272 => (laws_FnExactApplyDeltas.j0 k l0 l1 (!t272) bt243.1 bt243.2 bt254.1 bt254.2))))) else (some false)))) else (some false)))) else (some false))))))) = some r := H
   have A11 := zK A110
   clear A110
   replace H := Option.bind_eq_some_iff.mp H
   obtain ⟨⟨t243, t244⟩, A120, H⟩ := H
   replace H : ((laws_toFileS.f k l0).bind fun t248 => ((laws_toDeltaS.f k l1).bind fun t251 => ((impl_ApplyDeltas.f k t248 t251).bind fun bt254 => ((laws_eqFilesResult.f k bt254.1 bt254.2 t243 t244).bind fun t259 => (if t259 = true then ((laws_toFileS.f k l0).bind fun t260 => ((laws_eqFileS.f k t248 t260).bind fun t263 => (if t263 = true then ((laws_toDeltaS.f k l1).bind fun t264 => ((laws_eqDeltaS.f k t251 t264).bind fun t267 => (if t267 = true then ((laws_markFileS.f k t248 1).bind fun bt268 => ((laws_markDeltaS.f t251 bt268.1).bind fun bt270 => (if bt270.1 < 0 then (laws_FnExactApplyDeltas.j0 k l0 l1 true t243 t244 bt254.1 bt254.2) else ((laws_eqFilesResult.f k bt254.1 bt254.2 t243 t244).bind fun t272 => (laws_FnExactApplyDeltas.j0 k l0 l1 (!t272) t243 t244 bt254.1 bt254.2))))) else (some false)))) else (some false)))) else (some false)))))) = some r := H
   have A12 := zK A120
   clear A120
   replace H := Option.bind_eq_some_iff.mp H
   obtain ⟨t248, A130, H⟩ := H
   replace H : ((laws_toDeltaS.f k l1).bind fun t251 => ((impl_ApplyDeltas.f k t248 t251).bind fun bt254 => ((laws_eqFilesResult.f k bt254.1 bt254.2 t243 t244).bind fun t259 => (if t259 = true then ((laws_toFileS.f k l0).bind fun t260 => ((laws_eqFileS.f k t248 t260).bind fun t263 => (if t263 = true then ((laws_toDeltaS.f k l1).bind fun t264 => ((laws_eqDeltaS.f k t251 t264).bind fun t267 => (if t267 = true then ((laws_markFileS.f k t248 1).bind fun bt268 => ((laws_markDeltaS.f t251 bt268.1).bind fun bt270 => (if bt270.1 < 0 then (laws_FnExactApplyDeltas.j0 k l0 l1 true t243 t244 bt254.1 bt254.2) else ((laws_eqFilesResult.f k bt254.1 bt254.2 t243 t244).bind fun t272 => (laws_FnExactApplyDeltas.j0 k l0 l1 (!t272) t243 t244 bt254.1 bt254.2))))) else (some false)))) else (some false)))) else (some false))))) = some r := H
   have A13 := zK A130
   clear A130
   replace H := Option.bind_eq_some_iff.mp H
   obtain ⟨t251, A140, H⟩ := H
   replace H : ((impl_ApplyDeltas.f k t248 t251).bind fun bt254 => ((laws_eqFilesResult.f k bt254.1 bt254.2 t243 t244).bind fun t259 => (if t259 = true then ((laws_toFileS.f k l0).bind fun t260 => ((laws_eqFileS.f k t248 t260).bind fun t263 => (if t263 = true then ((laws_toDeltaS.f k l1).bind fun t264 => ((laws_eqDeltaS.f k t251 t264).bind fun t267 => (if t267 = true then ((laws_markFileS.f k t248 1).bind fun bt268 => ((laws_markDeltaS.f t251 bt268.1).bind fun bt270 => (if bt270.1 < 0 then (laws_FnExactApplyDeltas.j0 k l0 l1 true t243 t244 bt254.1 bt254.2) else ((laws_eqFilesResult.f k bt254.1 bt254.2 t243 t244).bind fun t272 => (laws_FnExactApplyDeltas.j0 k l0 l1 (!t272) t243 t244 bt254.1 bt254.2))))) else (some false)))) else (some false)))) else (some false)))) = some r := H
   have A14 := zK A140
   clear A140
   replace H := Option.bind_eq_some_iff.mp H
   obtain ⟨⟨t254, t255⟩, A150, H⟩ := H
   replace H : ((laws_eqFilesResult.f k t254 t255 t243 t244).bind fun t259 => (if t259 = true then ((laws_toFileS.f k l0).bind fun t260 => ((laws_eqFileS.f k t248 t260).bind fun t263 => (if t263 = true then ((laws_toDeltaS.f k l1).bind fun t264 => ((laws_eqDeltaS.f k t251 t264).bind fun t267 => (if t267 = true then ((laws_markFileS.f k t248 1).bind fun bt268 => ((laws_markDeltaS.f t251 bt268.1).bind fun bt270 => (if bt270.1 < 0 then (laws_FnExactApplyDeltas.j0 k l0 l1 true t243 t244 t254 t255) else ((laws_eqFilesResult.f k t254 t255 t243 t244).bind fun t272 => (laws_FnExactApplyDeltas.j0 k l0 l1 (!t272) t243 t244 t254 t255))))) else (some false)))) else (some false)))) else (some false))) = some r := H
   have A15 := zK A150
   clear A150
   replace H := Option.bind_eq_some_iff.mp H
   obtain ⟨t259, A160, H⟩ := H
   replace H : (if t259 = true then ((laws_toFileS.f k l0).bind fun t260 => ((laws_eqFileS.f k t248 t260).bind fun t263 => (if t263 = true then ((laws_toDeltaS.f k l1).bind fun t264 => ((laws_eqDeltaS.f k t251 t264).bind fun t267 => (if t267 = true then ((laws_markFileS.f k t248 1).bind fun bt268 => ((laws_markDeltaS.f t251 bt268.1).bind fun bt270 => (if bt270.1 < 0 then (laws_FnExactApplyDeltas.j0 k l0 l1 true t243 t244 t254 t255) else ((laws_eqFilesResult.f k t254 t255 t243 t244).bind fun t272 => (laws_FnExactApplyDeltas.j0 k l0 l1 (!t272) t243 t244 t254 t255))))) else (some false)))) else (some false)))) else (some false)) = some r := H
   have A16 := zK A160
   clear A160
   by_cases c17 : t259 = true
   ·
    subst c17
    have H1 : ((laws_toFileS.f k l0).bind fun t260 => ((laws_eqFileS.f k t248 t260).bind fun t263 => (if t263 = true then ((laws_toDeltaS.f k l1).bind fun t264 => ((laws_eqDeltaS.f k t251 t264).bind fun t267 => (if t267 = true then ((laws_markFileS.f k t248 1).bind fun bt268 => ((laws_markDeltaS.f t251 bt268.1).bind fun bt270 => (if bt270.1 < 0 then (laws_FnExactApplyDeltas.j0 k l0 l1 true t243 t244 t254 t255) else ((laws_eqFilesResult.f k t254 t255 t243 t244).bind fun t272 => (laws_FnExactApplyDeltas.j0 k l0 l1 (!t272) t243 t244 t254 t255))))) else (some false)))) else (some false)))) = some r := by rw [if_pos rfl] at H; exact H
    clear H
    have H := H1
    clear H1
    replace H := Option.bind_eq_some_iff.mp H
    obtain ⟨t260, A180, H⟩ := H
    replace H : ((laws_eqFileS.f k t248 t260).bind fun t263 => (if t263 = true then ((laws_toDeltaS.f k l1).bind fun t264 => ((laws_eqDeltaS.f k t251 t264).bind fun t267 => (if t267 = true then ((laws_markFileS.f k t248 1).bind fun bt268 => ((laws_markDeltaS.f t251 bt268.1).bind fun bt270 => (if bt270.1 < 0 then (laws_FnExactApplyDeltas.j0 k l0 l1 true t243 t244 t254 t255) else ((laws_eqFilesResult.f k t254 t255 t243 t244).bind fun t272 => (laws_FnExactApplyDeltas.j0 k l0 l1 (!t272) t243 t244 t254 t255))))) else (some false)))) else (some false))) = some r := H
    have A18 := zK A180
    clear A180
    replace H := Option.bind_eq_some_iff.mp H
    obtain ⟨t263, A190, H⟩ := H
    replace H : (if t263 = true then ((laws_toDeltaS.f k l1).bind fun t264 => ((laws_eqDeltaS.f k t251 t264).bind fun t267 => (if t267 = true then ((laws_markFileS.f k t248 1).bind fun bt268 => ((laws_markDeltaS.f t251 bt268.1).bind fun bt270 => (if bt270.1 < 0 then (laws_FnExactApplyDeltas.j0 k l0 l1 true t243 t244 t254 t255) else ((laws_eqFilesResult.f k t254 t255 t243 t244).bind fun t272 => (laws_FnExactApplyDeltas.j0 k l0 l1 (!t272) t243 t244 t254 t255))))) else (some false)))) else (some false)) = some r := H
    have A19 := zK A190
    clear A190
    by_cases c20 : t263 = true
    ·
     subst c20
     have H1 : ((laws_toDeltaS.f k l1).bind fun t264 => ((laws_eqDeltaS.f k t251 t264).bind fun t267 => (if t267 = true then ((laws_markFileS.f k t248 1).bind fun bt268 => ((laws_markDeltaS.f t251 bt268.1).bind fun bt270 => (if bt270.1 < 0 then (laws_FnExactApplyDeltas.j0 k l0 l1 true t243 t244 t254 t255) else ((laws_eqFilesResult.f k t254 t255 t243 t244).bind fun t272 => (laws_FnExactApplyDeltas.j0 k l0 l1 (!t272) t243 t244 t254 t255))))) else (some false)))) = some r := by rw [if_pos rfl] at H; exact H
     clear H
     have H := H1
     clear H1
     replace H := Option.bind_eq_some_iff.mp H
     obtain ⟨t264, A210, H⟩ := H
     replace H : ((laws_eqDeltaS.f k t251 t264).bind fun t267 => (if t267 = true then ((laws_markFileS.f k t248 1).bind fun bt268 => ((laws_markDeltaS.f t251 bt268.1).bind fun bt270 => (if bt270.1 < 0 then (laws_FnExactApplyDeltas.j0 k l0 l1 true t243 t244 t254 t255) else ((laws_eqFilesResult.f k t254 t255 t243 t244).bind fun t272 => (laws_FnExactApplyDeltas.j0 k l0 l1 (!t272) t243 t244 t254 t255))))) else (some false))) = some r := H
     have A21 := zK A210
     clear A210
     replace H := Option.bind_eq_some_iff.mp H
     obtain ⟨t267, A220, H⟩ := H
     replace H : (if t267 = true then ((laws_markFileS.f k t248 1).bind fun bt268 => ((laws_markDeltaS.f t251 bt268.1).bind fun bt270 => (if bt270.1 < 0 then (laws_FnExactApplyDeltas.j0 k l0 l1 true t243 t244 t254 t255) else ((laws_eqFilesResult.f k t254 t255 t243 t244).bind fun t272 => (laws_FnExactApplyDeltas.j0 k l0 l1 (!t272) t243 t244 t254 t255))))) else (some false)) = some r := H
     have A22 := zK A220
     clear A220
     by_cases c23 : t267 = true
     ·
      subst c23
      have H1 : ((laws_markFileS.f k t248 1).bind fun bt268 => ((laws_markDeltaS.f t251 bt268.1).bind fun bt270 => (if bt270.1 < 0 then (laws_FnExactApplyDeltas.j0 k l0 l1 true t243 t244 t254 t255) else ((laws_eqFilesResult.f k t254 t255 t243 t244).bind fun t272 => (laws_FnExactApplyDeltas.j0 k l0 l1 (!t272) t243 t244 t254 t255))))) = some r := by rw [if_pos rfl] at H; exact H
      clear H
      have H := H1
      clear H1
      replace H := Option.bind_eq_some_iff.mp H
      obtain ⟨⟨t268, t269⟩, A240, H⟩ := H
      replace H : ((laws_markDeltaS.f t251 t268).bind fun bt270 => (if bt270.1 < 0 then (laws_FnExactApplyDeltas.j0 k l0 l1 true t243 t244 t254 t255) else ((laws_eqFilesResult.f k t254 t255 t243 t244).bind fun t272 => (laws_FnExactApplyDeltas.j0 k l0 l1 (!t272) t243 t244 t254 t255)))) = some r := H
      have A24 := zK A240
      clear A240
      replace H := Option.bind_eq_some_iff.mp H
      obtain ⟨⟨t270, t271⟩, A250, H⟩ := H
      replace H : (if t270 < 0 then (laws_FnExactApplyDeltas.j0 k l0 l1 true t243 t244 t254 t255) else ((laws_eqFilesResult.f k t254 t255 t243 t244).bind fun t272 => (laws_FnExactApplyDeltas.j0 k l0 l1 (!t272) t243 t244 t254 t255))) = some r := H
      have A25 := zK A250
      clear A250
      have HC26 := zK H
      clear H
      go_enter Tryd.func6, Tryd.ntmps6
      go_upto_region 21 with (first | ((with_reducible refine gate_callee (f := 30) rfl ?_); refine goesL_ (some 16) rfl rfl Tryd.func30 (by kernel_rfl) rfl #[.slice A0 l0.length c0, .int .i64 1048576] rfl (by (try simp only [List.map_toArray, List.map_cons, List.map_nil]); first | done | rfl | (simp only [List.length_drop, List.length_take]; rfl)) ?_; (with_reducible refine (laws_szFileS.calls k _ _ l0 1048576 t235 _ ?side1 ?side2 A3.out).mono ?_); (case side1 => repeat (first | exact HR0.out | (with_reducible refine Kd.C_alloc ?_ _) | (with_reducible refine Kd.C_drewN ?_ _) | (with_reducible refine Kd.C_drew ?_))); (case side2 => exact HC0.out); rintro e w27 ⟨rfl, hb⟩; refine ⟨_, rfl, ?_⟩; have n0_ := zK (below_step (by repeat (first | (with_reducible first | exact HB.out | apply zA | apply zN | apply zD) | exact HB.out)) hb); clear HB; have HB := n0_; clear n0_; (try clear hb); (try clear hb2); (try clear hk); (try clear hi)) | ((with_reducible refine gate_callee (f := 31) rfl ?_); refine goesL_ (some 21) rfl rfl Tryd.func31 (by kernel_rfl) rfl #[.slice A1 l1.length c1, .int .i64 t235] rfl (by (try simp only [List.map_toArray, List.map_cons, List.map_nil]); first | done | rfl | (simp only [List.length_drop, List.length_take]; rfl)) ?_; (with_reducible refine (laws_szDeltaS.calls k _ _ l1 t235 t236 _ ?side1 ?side2 A6.out).mono ?_); (case side1 => repeat (first | exact (Kd.C_below HR1.out HB.out) | (with_reducible refine Kd.C_alloc ?_ _) | (with_reducible refine Kd.C_drewN ?_ _) | (with_reducible refine Kd.C_drew ?_))); (case side2 => exact HC1.out); rintro e w28 ⟨rfl, hb⟩; refine ⟨_, rfl, ?_⟩; have n0_ := zK (below_step (by repeat (first | (with_reducible first | exact HB.out | apply zA | apply zN | apply zD) | exact HB.out)) hb); clear HB; have HB := n0_; clear n0_; (try clear hb); (try clear hb2); (try clear hk); (try clear hi)) | ((with_reducible refine gate_callee (f := 33) rfl ?_); refine goesL_ (some 25) rfl rfl Tryd.func33 (by kernel_rfl) rfl #[.slice A0 l0.length c0] rfl (by (try simp only [List.map_toArray, List.map_cons, List.map_nil]); first | done | rfl | (simp only [List.length_drop, List.length_take]; rfl)) ?_; (with_reducible refine (laws_toFileS.calls k _ _ l0 t237 _ ?side1 ?side2 A10.out).mono ?_); (case side1 => repeat (first | exact (Kd.C_below HR0.out HB.out) | (with_reducible refine Kd.C_alloc ?_ _) | (with_reducible refine Kd.C_drewN ?_ _) | (with_reducible refine Kd.C_drew ?_))); (case side2 => exact HC0.out); rintro e w29 ⟨v238, rfl, ho0, hb⟩; refine ⟨_, rfl, ?_⟩; have n0_ := zK (Kd.R_lower ho0 (below_size (by repeat (first | (with_reducible first | exact HB.out | apply zA | apply zN | apply zD) | exact HB.out)))); have n1_ := zK (below_step (by repeat (first | (with_reducible first | exact HB.out | apply zA | apply zN | apply zD) | exact HB.out)) hb); clear HB; have HO239 := n0_; have HB := n1_; clear n0_ n1_; (try clear hb); (try clear hb2); (try clear hk); (try clear hi); (try clear ho0)) | ((with_reducible refine gate_callee (f := 34) rfl ?_); refine goesL_ (some 27) rfl rfl Tryd.func34 (by kernel_rfl) rfl #[.slice A1 l1.length c1] rfl (by (try simp only [List.map_toArray, List.map_cons, List.map_nil]); first | done | rfl | (simp only [List.length_drop, List.length_take]; rfl)) ?_; (with_reducible refine (laws_toDeltaS.calls k _ _ l1 t240 _ ?side1 ?side2 A11.out).mono ?_); (case side1 => repeat (first | exact (Kd.C_below HR1.out HB.out) | (with_reducible refine Kd.C_alloc ?_ _) | (with_reducible refine Kd.C_drewN ?_ _) | (with_reducible refine Kd.C_drew ?_))); (case side2 => exact HC1.out); rintro e w30 ⟨v241, rfl, ho0, hb⟩; refine ⟨_, rfl, ?_⟩; have n0_ := zK (Kd.R_below (by (with_reducible repeat (first | apply zR | apply zV | apply zW)); exact HO239.out) hb); have n1_ := zK (Kd.R_lower ho0 (below_size (by repeat (first | (with_reducible first | exact HB.out | apply zA | apply zN | apply zD) | exact HB.out)))); have n2_ := zK (below_step (by repeat (first | (with_reducible first | exact HB.out | apply zA | apply zN | apply zD) | exact HB.out)) hb); clear HO239; clear HB; have HO239 := n0_; have HO242 := n1_; have HB := n2_; clear n0_ n1_ n2_; (try clear hb); (try clear hb2); (try clear hk); (try clear hi); (try clear ho0); obtain ⟨Ao31, co31, eo31⟩ := Kd.R_slice HO239.out; subst eo31; obtain ⟨Ao32, co32, eo32⟩ := Kd.R_slice HO242.out; subst eo32) | ((with_reducible refine gate_callee (f := 32) rfl ?_); refine goesL_ (some 28) rfl rfl Tryd.func32 (by kernel_rfl) rfl #[.slice Ao31 t237.length co31, .slice Ao32 t240.length co32] rfl (by (try simp only [List.map_toArray, List.map_cons, List.map_nil]); first | done | rfl | (simp only [List.length_drop, List.length_take]; rfl)) ?_; (with_reducible refine (spec_ApplyDeltas.calls k _ _ t237 _ _ t240 t243 t244 _ ?side1 ?side2 ?side3 ?side4 A12.out).mono ?_); (case side1 => repeat (first | exact (Kd.R_reads' HO239.out).2.2 | (with_reducible refine Kd.C_alloc ?_ _) | (with_reducible refine Kd.C_drewN ?_ _) | (with_reducible refine Kd.C_drew ?_))); (case side2 => exact (Kd.R_reads' HO239.out).2.1); (case side3 => repeat (first | exact (Kd.R_reads' HO242.out).2.2 | (with_reducible refine Kd.C_alloc ?_ _) | (with_reducible refine Kd.C_drewN ?_ _) | (with_reducible refine Kd.C_drew ?_))); (case side4 => exact (Kd.R_reads' HO242.out).2.1); rintro e w33 ⟨v245, rfl, ho0, hb⟩; refine ⟨_, rfl, ?_⟩; have n0_ := zK (Kd.R_elder' (by (with_reducible repeat (first | apply zR | apply zV | apply zW)); exact HO239.out) (Kd.R_base ho0) hb); have n1_ := zK (Kd.R_below (by (with_reducible repeat (first | apply zR | apply zV | apply zW)); exact HO242.out) hb); have n2_ := zK (Kd.R_lower (Kd.R_new' ho0 (Kd.R_lt (by (with_reducible repeat (first | apply zR | apply zV | apply zW)); exact HO239.out))) (below_size (by repeat (first | (with_reducible first | exact HB.out | apply zA | apply zN | apply zD) | exact HB.out)))); have n3_ := zK (below_step (by repeat (first | (with_reducible first | exact HB.out | apply zA | apply zN | apply zD) | exact HB.out)) hb); clear HO239; clear HO242; clear HB; have HO239 := n0_; have HO242 := n1_; have HO246 := n2_; have HB := n3_; clear n0_ n1_ n2_ n3_; (try clear hb); (try clear hb2); (try clear hk); (try clear hi); (try clear ho0)) | ((with_reducible refine gate_dst (N := 6) rfl ?_); refine box_event ?hg (N := 6) ?hd (cs := #[.int .i64 0, .slice none 0 0]) (t := 26) ?hr ?_; (case hd => rfl); (case hg => rfl); (case hr => first | (go_simp; done) | (go_simp; rfl)); intro gb247 hg w34 hbox hb; have n0_ := zK (Kd.R_below (by (with_reducible repeat (first | apply zR | apply zV | apply zW)); exact HO239.out) hb); have n1_ := zK (Kd.R_below (by (with_reducible repeat (first | apply zR | apply zV | apply zW)); exact HO242.out) hb); have n2_ := zK (Kd.R_below (by (with_reducible repeat (first | apply zR | apply zV | apply zW)); exact HO246.out) hb); have n3_ := zK (below_step (by repeat (first | (with_reducible first | exact HB.out | apply zA | apply zN | apply zD) | exact HB.out)) hb); have n4_ := zK (hbox); have n5_ := zK ((by rw [hg]; exact (below_size (by repeat (first | (with_reducible first | exact HB.out | apply zA | apply zN | apply zD) | exact HB.out))) : w.heap.size ≤ gb247)); have n6_ := zK ((by rw [hg]; exact (below_size (by repeat (first | (with_reducible first | exact HB.out | apply zA | apply zN | apply zD) | exact HB.out))) : w.heap.size ≤ gb247)); clear HO239; clear HO242; clear HO246; clear HB; have HO239 := n0_; have HO242 := n1_; have HO246 := n2_; have HB := n3_; have BK247 := n4_; have GW247 := n5_; have GE247 := n6_; clear n0_ n1_ n2_ n3_ n4_ n5_ n6_; clear hb hbox hg; have hcz35_0 : w34.cell? ⟨gb247, 0, none⟩ = some (.int .i64 0) := (blk_cell BK247.out 0).trans rfl; have hcz35_1 : w34.cell? ⟨gb247, 1, none⟩ = some (.slice none 0 0) := (blk_cell BK247.out 1).trans rfl; have hfz35_0 := blk_frozen BK247.out 0; have hfz35_1 := blk_frozen BK247.out 1; obtain ⟨Ao36, co36, eo36⟩ := Kd.R_slice HO246.out; subst eo36) | ((with_reducible refine gate_callee (f := 33) rfl ?_); refine goesL_ (some 30) rfl rfl Tryd.func33 (by kernel_rfl) rfl #[.slice A0 l0.length c0] rfl (by (try simp only [List.map_toArray, List.map_cons, List.map_nil]); first | done | rfl | (simp only [List.length_drop, List.length_take]; rfl)) ?_; (with_reducible refine (laws_toFileS.calls k _ _ l0 t248 _ ?side1 ?side2 A13.out).mono ?_); (case side1 => exact Kd.C_below HR0.out (by repeat (first | (with_reducible first | exact HB.out | apply zA | apply zN | apply zD | refine below_set ?_ GE247.out) | exact HB.out))); (case side2 => exact HC0.out); rintro e w37 ⟨v249, rfl, ho0, hb⟩; refine ⟨_, rfl, ?_⟩; have n0_ := zK (Kd.R_elder' (by (with_reducible repeat (first | apply zR | apply zV | apply zW)); exact (Kd.R_mono (Kd.R_far (p := ⟨gb247, 1, none⟩) (Kd.R_far (p := ⟨gb247, 0, none⟩) (Kd.R_types HO239.out BK247.out (by decide)) (fun _ hk => hk.2) (.int .i64 t243)) (fun _ hk => hk.2) (.slice Ao36 t244.length co36)) (fun _ h_ => h_.1))) (Kd.R_base ho0) hb); have n1_ := zK (Kd.R_below (by (with_reducible repeat (first | apply zR | apply zV | apply zW)); exact (Kd.R_mono (Kd.R_far (p := ⟨gb247, 1, none⟩) (Kd.R_far (p := ⟨gb247, 0, none⟩) (Kd.R_types HO242.out BK247.out (by decide)) (fun _ hk => hk.2) (.int .i64 t243)) (fun _ hk => hk.2) (.slice Ao36 t244.length co36)) (fun _ h_ => h_.1))) hb); have n2_ := zK (Kd.R_elder' (by (with_reducible repeat (first | apply zR | apply zV | apply zW)); exact (Kd.R_mono (Kd.R_far (p := ⟨gb247, 1, none⟩) (Kd.R_far (p := ⟨gb247, 0, none⟩) (Kd.R_types HO246.out BK247.out (by decide)) (fun _ hk => hk.2) (.int .i64 t243)) (fun _ hk => hk.2) (.slice Ao36 t244.length co36)) (fun _ h_ => h_.1))) (Kd.R_base ho0) hb); have n3_ := zK (Kd.R_lower (Kd.R_new' (Kd.R_new' ho0 (Kd.R_lt (by (with_reducible repeat (first | apply zR | apply zV | apply zW)); exact (Kd.R_mono (Kd.R_far (p := ⟨gb247, 1, none⟩) (Kd.R_far (p := ⟨gb247, 0, none⟩) (Kd.R_types HO239.out BK247.out (by decide)) (fun _ hk => hk.2) (.int .i64 t243)) (fun _ hk => hk.2) (.slice Ao36 t244.length co36)) (fun _ h_ => h_.1))))) (Kd.R_lt (by (with_reducible repeat (first | apply zR | apply zV | apply zW)); exact (Kd.R_mono (Kd.R_far (p := ⟨gb247, 1, none⟩) (Kd.R_far (p := ⟨gb247, 0, none⟩) (Kd.R_types HO246.out BK247.out (by decide)) (fun _ hk => hk.2) (.int .i64 t243)) (fun _ hk => hk.2) (.slice Ao36 t244.length co36)) (fun _ h_ => h_.1))))) (below_size (by repeat (first | (with_reducible first | exact HB.out | apply zA | apply zN | apply zD | refine below_set ?_ GE247.out) | exact HB.out)))); have n4_ := zK (blk_below (g := gb247) (o := .cells #[.int .i64 t243, .slice Ao36 t244.length co36] 26 (0, 0)) (by (with_reducible repeat (first | refine zM ?_ _ | refine zP ?_ | refine zQ ?_ _)); refine blk_put (cs := #[.int .i64 t243, .slice none 0 0]) ?_ 1 _ rfl; (with_reducible repeat (first | refine zM ?_ _ | refine zP ?_ | refine zQ ?_ _)); refine blk_put (cs := #[.int .i64 0, .slice none 0 0]) ?_ 0 _ rfl; (with_reducible repeat (first | refine zM ?_ _ | refine zP ?_ | refine zQ ?_ _)); exact BK247.out) hb); have n5_ := zK (below_step (by repeat (first | (with_reducible first | exact HB.out | apply zA | apply zN | apply zD | refine below_set ?_ GE247.out) | exact HB.out)) hb); clear HO239; clear HO242; clear HO246; clear BK247; clear HB; have HO239 := n0_; have HO242 := n1_; have HO246 := n2_; have HO250 := n3_; have BK247 := n4_; have HB := n5_; clear n0_ n1_ n2_ n3_ n4_ n5_; (try clear hb); (try clear hb2); (try clear hk); (try clear hi); (try clear ho0)) | ((with_reducible refine gate_callee (f := 34) rfl ?_); refine goesL_ (some 32) rfl rfl Tryd.func34 (by kernel_rfl) rfl #[.slice A1 l1.length c1] rfl (by (try simp only [List.map_toArray, List.map_cons, List.map_nil]); first | done | rfl | (simp only [List.length_drop, List.length_take]; rfl)) ?_; (with_reducible refine (laws_toDeltaS.calls k _ _ l1 t251 _ ?side1 ?side2 A14.out).mono ?_); (case side1 => repeat (first | exact (Kd.C_below HR1.out HB.out) | (with_reducible refine Kd.C_alloc ?_ _) | (with_reducible refine Kd.C_drewN ?_ _) | (with_reducible refine Kd.C_drew ?_))); (case side2 => exact HC1.out); rintro e w38 ⟨v252, rfl, ho0, hb⟩; refine ⟨_, rfl, ?_⟩; have n0_ := zK (Kd.R_below (by (with_reducible repeat (first | apply zR | apply zV | apply zW)); exact HO239.out) hb); have n1_ := zK (Kd.R_elder' (by (with_reducible repeat (first | apply zR | apply zV | apply zW)); exact HO242.out) (Kd.R_base ho0) hb); have n2_ := zK (Kd.R_below (by (with_reducible repeat (first | apply zR | apply zV | apply zW)); exact HO246.out) hb); have n3_ := zK (Kd.R_below (by (with_reducible repeat (first | apply zR | apply zV | apply zW)); exact HO250.out) hb); have n4_ := zK (Kd.R_lower (Kd.R_new' ho0 (Kd.R_lt (by (with_reducible repeat (first | apply zR | apply zV | apply zW)); exact HO242.out))) (below_size (by repeat (first | (with_reducible first | exact HB.out | apply zA | apply zN | apply zD | refine below_set ?_ GE247.out) | exact HB.out)))); have n5_ := zK (blk_below (g := gb247) (o := .cells #[.int .i64 t243, .slice Ao36 t244.length co36] 26 (0, 0)) (by (with_reducible repeat (first | refine zM ?_ _ | refine zP ?_ | refine zQ ?_ _)); exact BK247.out) hb); have n6_ := zK (below_step (by repeat (first | (with_reducible first | exact HB.out | apply zA | apply zN | apply zD | refine below_set ?_ GE247.out) | exact HB.out)) hb); clear HO239; clear HO242; clear HO246; clear HO250; clear BK247; clear HB; have HO239 := n0_; have HO242 := n1_; have HO246 := n2_; have HO250 := n3_; have HO253 := n4_; have BK247 := n5_; have HB := n6_; clear n0_ n1_ n2_ n3_ n4_ n5_ n6_; (try clear hb); (try clear hb2); (try clear hk); (try clear hi); (try clear ho0); obtain ⟨Ao39, co39, eo39⟩ := Kd.R_slice HO250.out; subst eo39; obtain ⟨Ao40, co40, eo40⟩ := Kd.R_slice HO253.out; subst eo40) | ((with_reducible refine gate_callee (f := 35) rfl ?_); refine goesL_ (some 35) rfl rfl Tryd.func35 (by kernel_rfl) rfl #[.slice Ao39 t248.length co39, .slice Ao40 t251.length co40] rfl (by (try simp only [List.map_toArray, List.map_cons, List.map_nil]); first | done | rfl | (simp only [List.length_drop, List.length_take]; rfl)) ?_; (with_reducible refine (impl_ApplyDeltas.calls k _ _ t248 _ _ t251 t254 t255 _ ?side1 ?side2 ?side3 ?side4 A15.out).mono ?_); (case side1 => repeat (first | exact (Kd.R_reads' HO250.out).2.2 | (with_reducible refine Kd.C_alloc ?_ _) | (with_reducible refine Kd.C_drewN ?_ _) | (with_reducible refine Kd.C_drew ?_))); (case side2 => exact (Kd.R_reads' HO250.out).2.1); (case side3 => repeat (first | exact (Kd.R_reads' HO253.out).2.2 | (with_reducible refine Kd.C_alloc ?_ _) | (with_reducible refine Kd.C_drewN ?_ _) | (with_reducible refine Kd.C_drew ?_))); (case side4 => exact (Kd.R_reads' HO253.out).2.1); rintro e w41 ⟨v256, rfl, ho0, hb⟩; refine ⟨_, rfl, ?_⟩; have n0_ := zK (Kd.R_elder' (by (with_reducible repeat (first | apply zR | apply zV | apply zW)); exact HO239.out) (Kd.R_base ho0) hb); have n1_ := zK (Kd.R_below (by (with_reducible repeat (first | apply zR | apply zV | apply zW)); exact HO242.out) hb); have n2_ := zK (Kd.R_elder' (by (with_reducible repeat (first | apply zR | apply zV | apply zW)); exact HO246.out) (Kd.R_base ho0) hb); have n3_ := zK (Kd.R_elder' (by (with_reducible repeat (first | apply zR | apply zV | apply zW)); exact HO250.out) (Kd.R_base ho0) hb); have n4_ := zK (Kd.R_below (by (with_reducible repeat (first | apply zR | apply zV | apply zW)); exact HO253.out) hb); have n5_ := zK (Kd.R_lower (Kd.R_new' (Kd.R_new' (Kd.R_new' ho0 (Kd.R_lt (by (with_reducible repeat (first | apply zR | apply zV | apply zW)); exact HO239.out))) (Kd.R_lt (by (with_reducible repeat (first | apply zR | apply zV | apply zW)); exact HO246.out))) (Kd.R_lt (by (with_reducible repeat (first | apply zR | apply zV | apply zW)); exact HO250.out))) (below_size (by repeat (first | (with_reducible first | exact HB.out | apply zA | apply zN | apply zD | refine below_set ?_ GE247.out) | exact HB.out)))); have n6_ := zK (blk_below (g := gb247) (o := .cells #[.int .i64 t243, .slice Ao36 t244.length co36] 26 (0, 0)) (by (with_reducible repeat (first | refine zM ?_ _ | refine zP ?_ | refine zQ ?_ _)); exact BK247.out) hb); have n7_ := zK (below_step (by repeat (first | (with_reducible first | exact HB.out | apply zA | apply zN | apply zD | refine below_set ?_ GE247.out) | exact HB.out)) hb); clear HO239; clear HO242; clear HO246; clear HO250; clear HO253; clear BK247; clear HB; have HO239 := n0_; have HO242 := n1_; have HO246 := n2_; have HO250 := n3_; have HO253 := n4_; have HO257 := n5_; have BK247 := n6_; have HB := n7_; clear n0_ n1_ n2_ n3_ n4_ n5_ n6_ n7_; (try clear hb); (try clear hb2); (try clear hk); (try clear hi); (try clear ho0)) | ((with_reducible refine gate_dst (N := 9) rfl ?_); refine box_event ?hg (N := 9) ?hd (cs := #[.int .i64 0, .slice none 0 0]) (t := 26) ?hr ?_; (case hd => rfl); (case hg => rfl); (case hr => first | (go_simp; done) | (go_simp; rfl)); intro gb258 hg w42 hbox hb; have n0_ := zK (Kd.R_below (by (with_reducible repeat (first | apply zR | apply zV | apply zW)); exact HO239.out) hb); have n1_ := zK (Kd.R_below (by (with_reducible repeat (first | apply zR | apply zV | apply zW)); exact HO242.out) hb); have n2_ := zK (Kd.R_below (by (with_reducible repeat (first | apply zR | apply zV | apply zW)); exact HO246.out) hb); have n3_ := zK (Kd.R_below (by (with_reducible repeat (first | apply zR | apply zV | apply zW)); exact HO250.out) hb); have n4_ := zK (Kd.R_below (by (with_reducible repeat (first | apply zR | apply zV | apply zW)); exact HO253.out) hb); have n5_ := zK (Kd.R_below (by (with_reducible repeat (first | apply zR | apply zV | apply zW)); exact HO257.out) hb); have n6_ := zK (blk_below (g := gb247) (o := .cells #[.int .i64 t243, .slice Ao36 t244.length co36] 26 (0, 0)) (by (with_reducible repeat (first | refine zM ?_ _ | refine zP ?_ | refine zQ ?_ _)); exact BK247.out) hb); have n7_ := zK (below_step (by repeat (first | (with_reducible first | exact HB.out | apply zA | apply zN | apply zD | refine below_set ?_ GE247.out) | exact HB.out)) hb); have n8_ := zK (hbox); have n9_ := zK ((by rw [hg]; exact (below_size (by repeat (first | (with_reducible first | exact HB.out | apply zA | apply zN | apply zD | refine below_set ?_ GE247.out) | exact HB.out))) : w.heap.size ≤ gb258)); have n10_ := zK ((by rw [hg]; exact (below_size (by repeat (first | (with_reducible first | exact HB.out | apply zA | apply zN | apply zD | refine below_set ?_ GE247.out) | exact HB.out))) : w.heap.size ≤ gb258)); have n11_ := zK ((by rw [hg]; exact Nat.ne_of_lt (blk_lt (g := gb247) (o := .cells #[.int .i64 t243, .slice Ao36 t244.length co36] 26 (0, 0)) (by (with_reducible repeat (first | refine zM ?_ _ | refine zP ?_ | refine zQ ?_ _)); exact BK247.out)) : gb247 ≠ gb258)); have n12_ := zK ((by rw [hg]; exact Nat.ne_of_gt (blk_lt (g := gb247) (o := .cells #[.int .i64 t243, .slice Ao36 t244.length co36] 26 (0, 0)) (by (with_reducible repeat (first | refine zM ?_ _ | refine zP ?_ | refine zQ ?_ _)); exact BK247.out)) : gb258 ≠ gb247)); clear HO239; clear HO242; clear HO246; clear HO250; clear HO253; clear HO257; clear BK247; clear HB; have HO239 := n0_; have HO242 := n1_; have HO246 := n2_; have HO250 := n3_; have HO253 := n4_; have HO257 := n5_; have BK247 := n6_; have HB := n7_; have BK258 := n8_; have GW258 := n9_; have GE258 := n10_; have NB247_258 := n11_; have NB258_247 := n12_; clear n0_ n1_ n2_ n3_ n4_ n5_ n6_ n7_ n8_ n9_ n10_ n11_ n12_; clear hb hbox hg; have hnb43 := NB258_247.out; have hnc43 := NB247_258.out; have hcz44_0 : w42.cell? ⟨gb258, 0, none⟩ = some (.int .i64 0) := (blk_cell BK258.out 0).trans rfl; have hcz44_1 : w42.cell? ⟨gb258, 1, none⟩ = some (.slice none 0 0) := (blk_cell BK258.out 1).trans rfl; have hfz44_0 := blk_frozen BK258.out 0; have hfz44_1 := blk_frozen BK258.out 1; obtain ⟨Ao45, co45, eo45⟩ := Kd.R_slice HO257.out; subst eo45; have hcz46_0 : w42.cell? ⟨gb247, 0, none⟩ = some (.int .i64 t243) := (blk_cell BK247.out 0).trans rfl; have hcz46_1 : w42.cell? ⟨gb247, 1, none⟩ = some (.slice Ao36 t244.length co36) := (blk_cell BK247.out 1).trans rfl; have hfz46_0 := blk_frozen BK247.out 0; have hfz46_1 := blk_frozen BK247.out 1) | ((with_reducible refine gate_callee (f := 13) rfl ?_); refine goesL_ (some 38) rfl rfl Tryd.func13 (by kernel_rfl) rfl #[.agg #[.int .i64 t254, .slice Ao45 t255.length co45], .agg #[.int .i64 t243, .slice Ao36 t244.length co36]] rfl (by (try simp only [List.map_toArray, List.map_cons, List.map_nil]); first | done | rfl | (simp only [List.length_drop, List.length_take]; rfl)) ?_; (with_reducible refine (laws_eqFilesResult.calls k t254 _ _ t255 t243 _ _ t244 true _ ?side1 ?side2 ?side3 ?side4 A16.out).mono ?_); (case side1 => refine (Kd.R_reads' (e := 106) (base := w.heap.size) (ok := fun k_ => (((True ∧ some k_ ≠ (.slice Ao31 t237.length co31 : Value).ownBlock) ∧ some k_ ≠ (.slice Ao36 t244.length co36 : Value).ownBlock) ∧ some k_ ≠ (.slice Ao39 t248.length co39 : Value).ownBlock)) (n := t255.length) (c := co45) ?_).2.2; exact (by (with_reducible repeat (first | apply zR | apply zV | apply zW)); exact (Kd.R_mono (Kd.R_far (p := ⟨gb258, 1, none⟩) (Kd.R_far (p := ⟨gb258, 0, none⟩) (Kd.R_types HO257.out BK258.out (by decide)) (fun _ hk => hk.2) (.int .i64 t254)) (fun _ hk => hk.2) (.slice Ao45 t255.length co45)) (fun _ h_ => h_.1)))); (case side2 => exact (Kd.R_reads' HO257.out).2.1); (case side3 => refine (Kd.R_reads' (e := 106) (base := w.heap.size) (ok := fun k_ => (((True ∧ some k_ ≠ (.slice Ao31 t237.length co31 : Value).ownBlock) ∧ some k_ ≠ (.slice Ao39 t248.length co39 : Value).ownBlock) ∧ some k_ ≠ (.slice Ao45 t255.length co45 : Value).ownBlock)) (n := t244.length) (c := co36) ?_).2.2; exact (by (with_reducible repeat (first | apply zR | apply zV | apply zW)); exact (Kd.R_mono (Kd.R_far (p := ⟨gb258, 1, none⟩) (Kd.R_far (p := ⟨gb258, 0, none⟩) (Kd.R_types HO246.out BK258.out (by decide)) (fun _ hk => hk.2) (.int .i64 t254)) (fun _ hk => hk.2) (.slice Ao45 t255.length co45)) (fun _ h_ => h_.1)))); (case side4 => exact (Kd.R_reads' HO246.out).2.1); rintro e w47 ⟨rfl, hb⟩; refine ⟨_, rfl, ?_⟩; have n0_ := zK (Kd.R_below (by (with_reducible repeat (first | apply zR | apply zV | apply zW)); exact (Kd.R_mono (Kd.R_far (p := ⟨gb258, 1, none⟩) (Kd.R_far (p := ⟨gb258, 0, none⟩) (Kd.R_types HO239.out BK258.out (by decide)) (fun _ hk => hk.2) (.int .i64 t254)) (fun _ hk => hk.2) (.slice Ao45 t255.length co45)) (fun _ h_ => h_.1))) hb); have n1_ := zK (Kd.R_below (by (with_reducible repeat (first | apply zR | apply zV | apply zW)); exact (Kd.R_mono (Kd.R_far (p := ⟨gb258, 1, none⟩) (Kd.R_far (p := ⟨gb258, 0, none⟩) (Kd.R_types HO242.out BK258.out (by decide)) (fun _ hk => hk.2) (.int .i64 t254)) (fun _ hk => hk.2) (.slice Ao45 t255.length co45)) (fun _ h_ => h_.1))) hb); have n2_ := zK (Kd.R_below (by (with_reducible repeat (first | apply zR | apply zV | apply zW)); exact (Kd.R_mono (Kd.R_far (p := ⟨gb258, 1, none⟩) (Kd.R_far (p := ⟨gb258, 0, none⟩) (Kd.R_types HO246.out BK258.out (by decide)) (fun _ hk => hk.2) (.int .i64 t254)) (fun _ hk => hk.2) (.slice Ao45 t255.length co45)) (fun _ h_ => h_.1))) hb); have n3_ := zK (Kd.R_below (by (with_reducible repeat (first | apply zR | apply zV | apply zW)); exact (Kd.R_mono (Kd.R_far (p := ⟨gb258, 1, none⟩) (Kd.R_far (p := ⟨gb258, 0, none⟩) (Kd.R_types HO250.out BK258.out (by decide)) (fun _ hk => hk.2) (.int .i64 t254)) (fun _ hk => hk.2) (.slice Ao45 t255.length co45)) (fun _ h_ => h_.1))) hb); have n4_ := zK (Kd.R_below (by (with_reducible repeat (first | apply zR | apply zV | apply zW)); exact (Kd.R_mono (Kd.R_far (p := ⟨gb258, 1, none⟩) (Kd.R_far (p := ⟨gb258, 0, none⟩) (Kd.R_types HO253.out BK258.out (by decide)) (fun _ hk => hk.2) (.int .i64 t254)) (fun _ hk => hk.2) (.slice Ao45 t255.length co45)) (fun _ h_ => h_.1))) hb); have n5_ := zK (Kd.R_below (by (with_reducible repeat (first | apply zR | apply zV | apply zW)); exact (Kd.R_mono (Kd.R_far (p := ⟨gb258, 1, none⟩) (Kd.R_far (p := ⟨gb258, 0, none⟩) (Kd.R_types HO257.out BK258.out (by decide)) (fun _ hk => hk.2) (.int .i64 t254)) (fun _ hk => hk.2) (.slice Ao45 t255.length co45)) (fun _ h_ => h_.1))) hb); have n6_ := zK (blk_below (g := gb247) (o := .cells #[.int .i64 t243, .slice Ao36 t244.length co36] 26 (0, 0)) (by (with_reducible repeat (first | refine zM ?_ _ | refine zP ?_ | refine zQ ?_ _)); refine blk_far ?_ NB247_258.out _; (with_reducible repeat (first | refine zM ?_ _ | refine zP ?_ | refine zQ ?_ _)); refine blk_far ?_ NB247_258.out _; (with_reducible repeat (first | refine zM ?_ _ | refine zP ?_ | refine zQ ?_ _)); exact BK247.out) hb); have n7_ := zK (blk_below (g := gb258) (o := .cells #[.int .i64 t254, .slice Ao45 t255.length co45] 26 (0, 0)) (by (with_reducible repeat (first | refine zM ?_ _ | refine zP ?_ | refine zQ ?_ _)); refine blk_put (cs := #[.int .i64 t254, .slice none 0 0]) ?_ 1 _ rfl; (with_reducible repeat (first | refine zM ?_ _ | refine zP ?_ | refine zQ ?_ _)); refine blk_put (cs := #[.int .i64 0, .slice none 0 0]) ?_ 0 _ rfl; (with_reducible repeat (first | refine zM ?_ _ | refine zP ?_ | refine zQ ?_ _)); exact BK258.out) hb); have n8_ := zK (below_step (by repeat (first | (with_reducible first | exact HB.out | apply zA | apply zN | apply zD | refine below_set ?_ GE247.out | refine below_set ?_ GE258.out) | exact HB.out)) hb); clear HO239; clear HO242; clear HO246; clear HO250; clear HO253; clear HO257; clear BK247; clear BK258; clear HB; have HO239 := n0_; have HO242 := n1_; have HO246 := n2_; have HO250 := n3_; have HO253 := n4_; have HO257 := n5_; have BK247 := n6_; have BK258 := n7_; have HB := n8_; clear n0_ n1_ n2_ n3_ n4_ n5_ n6_ n7_ n8_; (try clear hb); (try clear hb2); (try clear hk); (try clear hi)) | ((with_reducible refine gate_callee (f := 33) rfl ?_); refine goesL_ (some 42) rfl rfl Tryd.func33 (by kernel_rfl) rfl #[.slice A0 l0.length c0] rfl (by (try simp only [List.map_toArray, List.map_cons, List.map_nil]); first | done | rfl | (simp only [List.length_drop, List.length_take]; rfl)) ?_; (with_reducible refine (laws_toFileS.calls k _ _ l0 t260 _ ?side1 ?side2 A18.out).mono ?_); (case side1 => repeat (first | exact (Kd.C_below HR0.out HB.out) | (with_reducible refine Kd.C_alloc ?_ _) | (with_reducible refine Kd.C_drewN ?_ _) | (with_reducible refine Kd.C_drew ?_))); (case side2 => exact HC0.out); rintro e w48 ⟨v261, rfl, ho0, hb⟩; refine ⟨_, rfl, ?_⟩; have n0_ := zK (Kd.R_elder' (by (with_reducible repeat (first | apply zR | apply zV | apply zW)); exact HO239.out) (Kd.R_base ho0) hb); have n1_ := zK (Kd.R_below (by (with_reducible repeat (first | apply zR | apply zV | apply zW)); exact HO242.out) hb); have n2_ := zK (Kd.R_elder' (by (with_reducible repeat (first | apply zR | apply zV | apply zW)); exact HO246.out) (Kd.R_base ho0) hb); have n3_ := zK (Kd.R_elder' (by (with_reducible repeat (first | apply zR | apply zV | apply zW)); exact HO250.out) (Kd.R_base ho0) hb); have n4_ := zK (Kd.R_below (by (with_reducible repeat (first | apply zR | apply zV | apply zW)); exact HO253.out) hb); have n5_ := zK (Kd.R_elder' (by (with_reducible repeat (first | apply zR | apply zV | apply zW)); exact HO257.out) (Kd.R_base ho0) hb); have n6_ := zK (Kd.R_lower (Kd.R_new' (Kd.R_new' (Kd.R_new' (Kd.R_new' ho0 (Kd.R_lt (by (with_reducible repeat (first | apply zR | apply zV | apply zW)); exact HO239.out))) (Kd.R_lt (by (with_reducible repeat (first | apply zR | apply zV | apply zW)); exact HO246.out))) (Kd.R_lt (by (with_reducible repeat (first | apply zR | apply zV | apply zW)); exact HO250.out))) (Kd.R_lt (by (with_reducible repeat (first | apply zR | apply zV | apply zW)); exact HO257.out))) (below_size (by repeat (first | (with_reducible first | exact HB.out | apply zA | apply zN | apply zD | refine below_set ?_ GE247.out | refine below_set ?_ GE258.out) | exact HB.out)))); have n7_ := zK (blk_below (g := gb247) (o := .cells #[.int .i64 t243, .slice Ao36 t244.length co36] 26 (0, 0)) (by (with_reducible repeat (first | refine zM ?_ _ | refine zP ?_ | refine zQ ?_ _)); exact BK247.out) hb); have n8_ := zK (blk_below (g := gb258) (o := .cells #[.int .i64 t254, .slice Ao45 t255.length co45] 26 (0, 0)) (by (with_reducible repeat (first | refine zM ?_ _ | refine zP ?_ | refine zQ ?_ _)); exact BK258.out) hb); have n9_ := zK (below_step (by repeat (first | (with_reducible first | exact HB.out | apply zA | apply zN | apply zD | refine below_set ?_ GE247.out | refine below_set ?_ GE258.out) | exact HB.out)) hb); clear HO239; clear HO242; clear HO246; clear HO250; clear HO253; clear HO257; clear BK247; clear BK258; clear HB; have HO239 := n0_; have HO242 := n1_; have HO246 := n2_; have HO250 := n3_; have HO253 := n4_; have HO257 := n5_; have HO262 := n6_; have BK247 := n7_; have BK258 := n8_; have HB := n9_; clear n0_ n1_ n2_ n3_ n4_ n5_ n6_ n7_ n8_ n9_; (try clear hb); (try clear hb2); (try clear hk); (try clear hi); (try clear ho0); obtain ⟨Ao49, co49, eo49⟩ := Kd.R_slice HO262.out; subst eo49) | ((with_reducible refine gate_callee (f := 36) rfl ?_); refine goesL_ (some 43) rfl rfl Tryd.func36 (by kernel_rfl) rfl #[.slice Ao39 t248.length co39, .slice Ao49 t260.length co49] rfl (by (try simp only [List.map_toArray, List.map_cons, List.map_nil]); first | done | rfl | (simp only [List.length_drop, List.length_take]; rfl)) ?_; (with_reducible refine (laws_eqFileS.calls k _ _ t248 _ _ t260 true _ ?side1 ?side2 ?side3 ?side4 A19.out).mono ?_); (case side1 => repeat (first | exact (Kd.R_reads' HO250.out).2.2 | (with_reducible refine Kd.C_alloc ?_ _) | (with_reducible refine Kd.C_drewN ?_ _) | (with_reducible refine Kd.C_drew ?_))); (case side2 => exact (Kd.R_reads' HO250.out).2.1); (case side3 => repeat (first | exact (Kd.R_reads' HO262.out).2.2 | (with_reducible refine Kd.C_alloc ?_ _) | (with_reducible refine Kd.C_drewN ?_ _) | (with_reducible refine Kd.C_drew ?_))); (case side4 => exact (Kd.R_reads' HO262.out).2.1); rintro e w50 ⟨rfl, hb⟩; refine ⟨_, rfl, ?_⟩; have n0_ := zK (Kd.R_below (by (with_reducible repeat (first | apply zR | apply zV | apply zW)); exact HO239.out) hb); have n1_ := zK (Kd.R_below (by (with_reducible repeat (first | apply zR | apply zV | apply zW)); exact HO242.out) hb); have n2_ := zK (Kd.R_below (by (with_reducible repeat (first | apply zR | apply zV | apply zW)); exact HO246.out) hb); have n3_ := zK (Kd.R_below (by (with_reducible repeat (first | apply zR | apply zV | apply zW)); exact HO250.out) hb); have n4_ := zK (Kd.R_below (by (with_reducible repeat (first | apply zR | apply zV | apply zW)); exact HO253.out) hb); have n5_ := zK (Kd.R_below (by (with_reducible repeat (first | apply zR | apply zV | apply zW)); exact HO257.out) hb); have n6_ := zK (Kd.R_below (by (with_reducible repeat (first | apply zR | apply zV | apply zW)); exact HO262.out) hb); have n7_ := zK (blk_below (g := gb247) (o := .cells #[.int .i64 t243, .slice Ao36 t244.length co36] 26 (0, 0)) (by (with_reducible repeat (first | refine zM ?_ _ | refine zP ?_ | refine zQ ?_ _)); exact BK247.out) hb); have n8_ := zK (blk_below (g := gb258) (o := .cells #[.int .i64 t254, .slice Ao45 t255.length co45] 26 (0, 0)) (by (with_reducible repeat (first | refine zM ?_ _ | refine zP ?_ | refine zQ ?_ _)); exact BK258.out) hb); have n9_ := zK (below_step (by repeat (first | (with_reducible first | exact HB.out | apply zA | apply zN | apply zD | refine below_set ?_ GE247.out | refine below_set ?_ GE258.out) | exact HB.out)) hb); clear HO239; clear HO242; clear HO246; clear HO250; clear HO253; clear HO257; clear HO262; clear BK247; clear BK258; clear HB; have HO239 := n0_; have HO242 := n1_; have HO246 := n2_; have HO250 := n3_; have HO253 := n4_; have HO257 := n5_; have HO262 := n6_; have BK247 := n7_; have BK258 := n8_; have HB := n9_; clear n0_ n1_ n2_ n3_ n4_ n5_ n6_ n7_ n8_ n9_; (try clear hb); (try clear hb2); (try clear hk); (try clear hi)) | ((with_reducible refine gate_callee (f := 34) rfl ?_); refine goesL_ (some 47) rfl rfl Tryd.func34 (by kernel_rfl) rfl #[.slice A1 l1.length c1] rfl (by (try simp only [List.map_toArray, List.map_cons, List.map_nil]); first | done | rfl | (simp only [List.length_drop, List.length_take]; rfl)) ?_; (with_reducible refine (laws_toDeltaS.calls k _ _ l1 t264 _ ?side1 ?side2 A21.out).mono ?_); (case side1 => repeat (first | exact (Kd.C_below HR1.out HB.out) | (with_reducible refine Kd.C_alloc ?_ _) | (with_reducible refine Kd.C_drewN ?_ _) | (with_reducible refine Kd.C_drew ?_))); (case side2 => exact HC1.out); rintro e w51 ⟨v265, rfl, ho0, hb⟩; refine ⟨_, rfl, ?_⟩; have n0_ := zK (Kd.R_below (by (with_reducible repeat (first | apply zR | apply zV | apply zW)); exact HO239.out) hb); have n1_ := zK (Kd.R_elder' (by (with_reducible repeat (first | apply zR | apply zV | apply zW)); exact HO242.out) (Kd.R_base ho0) hb); have n2_ := zK (Kd.R_below (by (with_reducible repeat (first | apply zR | apply zV | apply zW)); exact HO246.out) hb); have n3_ := zK (Kd.R_below (by (with_reducible repeat (first | apply zR | apply zV | apply zW)); exact HO250.out) hb); have n4_ := zK (Kd.R_elder' (by (with_reducible repeat (first | apply zR | apply zV | apply zW)); exact HO253.out) (Kd.R_base ho0) hb); have n5_ := zK (Kd.R_below (by (with_reducible repeat (first | apply zR | apply zV | apply zW)); exact HO257.out) hb); have n6_ := zK (Kd.R_below (by (with_reducible repeat (first | apply zR | apply zV | apply zW)); exact HO262.out) hb); have n7_ := zK (Kd.R_lower (Kd.R_new' (Kd.R_new' ho0 (Kd.R_lt (by (with_reducible repeat (first | apply zR | apply zV | apply zW)); exact HO242.out))) (Kd.R_lt (by (with_reducible repeat (first | apply zR | apply zV | apply zW)); exact HO253.out))) (below_size (by repeat (first | (with_reducible first | exact HB.out | apply zA | apply zN | apply zD | refine below_set ?_ GE247.out | refine below_set ?_ GE258.out) | exact HB.out)))); have n8_ := zK (blk_below (g := gb247) (o := .cells #[.int .i64 t243, .slice Ao36 t244.length co36] 26 (0, 0)) (by (with_reducible repeat (first | refine zM ?_ _ | refine zP ?_ | refine zQ ?_ _)); exact BK247.out) hb); have n9_ := zK (blk_below (g := gb258) (o := .cells #[.int .i64 t254, .slice Ao45 t255.length co45] 26 (0, 0)) (by (with_reducible repeat (first | refine zM ?_ _ | refine zP ?_ | refine zQ ?_ _)); exact BK258.out) hb); have n10_ := zK (below_step (by repeat (first | (with_reducible first | exact HB.out | apply zA | apply zN | apply zD | refine below_set ?_ GE247.out | refine below_set ?_ GE258.out) | exact HB.out)) hb); clear HO239; clear HO242; clear HO246; clear HO250; clear HO253; clear HO257; clear HO262; clear BK247; clear BK258; clear HB; have HO239 := n0_; have HO242 := n1_; have HO246 := n2_; have HO250 := n3_; have HO253 := n4_; have HO257 := n5_; have HO262 := n6_; have HO266 := n7_; have BK247 := n8_; have BK258 := n9_; have HB := n10_; clear n0_ n1_ n2_ n3_ n4_ n5_ n6_ n7_ n8_ n9_ n10_; (try clear hb); (try clear hb2); (try clear hk); (try clear hi); (try clear ho0); obtain ⟨Ao52, co52, eo52⟩ := Kd.R_slice HO266.out; subst eo52) | ((with_reducible refine gate_callee (f := 37) rfl ?_); refine goesL_ (some 48) rfl rfl Tryd.func37 (by kernel_rfl) rfl #[.slice Ao40 t251.length co40, .slice Ao52 t264.length co52] rfl (by (try simp only [List.map_toArray, List.map_cons, List.map_nil]); first | done | rfl | (simp only [List.length_drop, List.length_take]; rfl)) ?_; (with_reducible refine (laws_eqDeltaS.calls k _ _ t251 _ _ t264 true _ ?side1 ?side2 ?side3 ?side4 A22.out).mono ?_); (case side1 => repeat (first | exact (Kd.R_reads' HO253.out).2.2 | (with_reducible refine Kd.C_alloc ?_ _) | (with_reducible refine Kd.C_drewN ?_ _) | (with_reducible refine Kd.C_drew ?_))); (case side2 => exact (Kd.R_reads' HO253.out).2.1); (case side3 => repeat (first | exact (Kd.R_reads' HO266.out).2.2 | (with_reducible refine Kd.C_alloc ?_ _) | (with_reducible refine Kd.C_drewN ?_ _) | (with_reducible refine Kd.C_drew ?_))); (case side4 => exact (Kd.R_reads' HO266.out).2.1); rintro e w53 ⟨rfl, hb⟩; refine ⟨_, rfl, ?_⟩; have n0_ := zK (Kd.R_below (by (with_reducible repeat (first | apply zR | apply zV | apply zW)); exact HO239.out) hb); have n1_ := zK (Kd.R_below (by (with_reducible repeat (first | apply zR | apply zV | apply zW)); exact HO242.out) hb); have n2_ := zK (Kd.R_below (by (with_reducible repeat (first | apply zR | apply zV | apply zW)); exact HO246.out) hb); have n3_ := zK (Kd.R_below (by (with_reducible repeat (first | apply zR | apply zV | apply zW)); exact HO250.out) hb); have n4_ := zK (Kd.R_below (by (with_reducible repeat (first | apply zR | apply zV | apply zW)); exact HO253.out) hb); have n5_ := zK (Kd.R_below (by (with_reducible repeat (first | apply zR | apply zV | apply zW)); exact HO257.out) hb); have n6_ := zK (Kd.R_below (by (with_reducible repeat (first | apply zR | apply zV | apply zW)); exact HO262.out) hb); have n7_ := zK (Kd.R_below (by (with_reducible repeat (first | apply zR | apply zV | apply zW)); exact HO266.out) hb); have n8_ := zK (blk_below (g := gb247) (o := .cells #[.int .i64 t243, .slice Ao36 t244.length co36] 26 (0, 0)) (by (with_reducible repeat (first | refine zM ?_ _ | refine zP ?_ | refine zQ ?_ _)); exact BK247.out) hb); have n9_ := zK (blk_below (g := gb258) (o := .cells #[.int .i64 t254, .slice Ao45 t255.length co45] 26 (0, 0)) (by (with_reducible repeat (first | refine zM ?_ _ | refine zP ?_ | refine zQ ?_ _)); exact BK258.out) hb); have n10_ := zK (below_step (by repeat (first | (with_reducible first | exact HB.out | apply zA | apply zN | apply zD | refine below_set ?_ GE247.out | refine below_set ?_ GE258.out) | exact HB.out)) hb); clear HO239; clear HO242; clear HO246; clear HO250; clear HO253; clear HO257; clear HO262; clear HO266; clear BK247; clear BK258; clear HB; have HO239 := n0_; have HO242 := n1_; have HO246 := n2_; have HO250 := n3_; have HO253 := n4_; have HO257 := n5_; have HO262 := n6_; have HO266 := n7_; have BK247 := n8_; have BK258 := n9_; have HB := n10_; clear n0_ n1_ n2_ n3_ n4_ n5_ n6_ n7_ n8_ n9_ n10_; (try clear hb); (try clear hb2); (try clear hk); (try clear hi)) | ((with_reducible refine gate_callee (f := 38) rfl ?_); refine goesL_ (some 52) rfl rfl Tryd.func38 (by kernel_rfl) rfl #[.slice Ao39 t248.length co39, .int .i64 1] rfl (by (try simp only [List.map_toArray, List.map_cons, List.map_nil]); first | done | rfl | (simp only [List.length_drop, List.length_take]; rfl)) ?_; (with_reducible refine (laws_markFileS.calls k (fun k_ => some k_ = (.slice Ao39 t248.length co39 : Value).ownBlock) (.slice Ao39 t248.length co39) t248 1 t268 t269 w _ ?side1 ?side2 A24.out).mono ?_); (case side1 => repeat (first | (with_reducible first | exact HB.out | apply zA | apply zN | apply zD | refine below_set ?_ GE247.out | refine below_set ?_ GE258.out) | exact HB.out)); (case side2 => exact Kd.R_tight rfl HO250.out); rintro e w54 ⟨rfl, hy0, hb, hkp⟩; refine ⟨_, rfl, ?_⟩; have n0_ := zK (Kd.R_mono (ok' := fun k_ => some k_ ≠ (.slice Ao36 t244.length co36 : Value).ownBlock ∧ some k_ ≠ (.slice Ao39 t248.length co39 : Value).ownBlock ∧ some k_ ≠ (.slice Ao45 t255.length co45 : Value).ownBlock ∧ some k_ ≠ (.slice Ao49 t260.length co49 : Value).ownBlock) (Kd.R_keptB (HO239.out) hkp (fun k_ hk_ hs_ => (hk_.1.1.2) hs_)) (fun k_ hk_ => ⟨hk_.1.1.1.1.2, hk_.1.1.1.2, hk_.1.1.2, hk_.1.2⟩)); have n1_ := zK (Kd.R_mono (ok' := fun k_ => some k_ ≠ (.slice Ao40 t251.length co40 : Value).ownBlock ∧ some k_ ≠ (.slice Ao52 t264.length co52 : Value).ownBlock) (Kd.R_keptB ((Kd.R_apart' HO242.out (Kd.R_typed HO250.out) (by decide))) hkp (fun k_ hk_ hs_ => (hk_.2) hs_)) (fun k_ hk_ => ⟨hk_.1.1.1.2, hk_.1.1.2⟩)); have n2_ := zK (Kd.R_mono (ok' := fun k_ => some k_ ≠ (.slice Ao31 t237.length co31 : Value).ownBlock ∧ some k_ ≠ (.slice Ao39 t248.length co39 : Value).ownBlock ∧ some k_ ≠ (.slice Ao45 t255.length co45 : Value).ownBlock ∧ some k_ ≠ (.slice Ao49 t260.length co49 : Value).ownBlock) (Kd.R_keptB (HO246.out) hkp (fun k_ hk_ hs_ => (hk_.1.1.2) hs_)) (fun k_ hk_ => ⟨hk_.1.1.1.1.2, hk_.1.1.1.2, hk_.1.1.2, hk_.1.2⟩)); have n3_ := zK (blk_kept (by (with_reducible repeat (first | refine zM ?_ _ | refine zP ?_ | refine zQ ?_ _)); exact BK247.out) hkp (fun hs_ => (fun e_ => (Kd.R_ne HO250.out BK247.out (by decide)) e_) hs_)); have n4_ := zK (Kd.R_reok rfl hy0 (fun k_ e_ => HO250.out.1 k_ e_)); have n5_ := zK (Kd.R_mono (ok' := fun k_ => some k_ ≠ (.slice Ao32 t240.length co32 : Value).ownBlock ∧ some k_ ≠ (.slice Ao52 t264.length co52 : Value).ownBlock) (Kd.R_keptB ((Kd.R_apart' HO253.out (Kd.R_typed HO250.out) (by decide))) hkp (fun k_ hk_ hs_ => (hk_.2) hs_)) (fun k_ hk_ => ⟨hk_.1.1.1.2, hk_.1.1.2⟩)); have n6_ := zK (Kd.R_mono (ok' := fun k_ => some k_ ≠ (.slice Ao31 t237.length co31 : Value).ownBlock ∧ some k_ ≠ (.slice Ao36 t244.length co36 : Value).ownBlock ∧ some k_ ≠ (.slice Ao39 t248.length co39 : Value).ownBlock ∧ some k_ ≠ (.slice Ao49 t260.length co49 : Value).ownBlock) (Kd.R_keptB (HO257.out) hkp (fun k_ hk_ hs_ => (hk_.1.2) hs_)) (fun k_ hk_ => ⟨hk_.1.1.1.1.2, hk_.1.1.1.2, hk_.1.1.2, hk_.1.2⟩)); have n7_ := zK (blk_kept (by (with_reducible repeat (first | refine zM ?_ _ | refine zP ?_ | refine zQ ?_ _)); exact BK258.out) hkp (fun hs_ => (fun e_ => (Kd.R_ne HO250.out BK258.out (by decide)) e_) hs_)); have n8_ := zK (Kd.R_mono (ok' := fun k_ => some k_ ≠ (.slice Ao31 t237.length co31 : Value).ownBlock ∧ some k_ ≠ (.slice Ao36 t244.length co36 : Value).ownBlock ∧ some k_ ≠ (.slice Ao39 t248.length co39 : Value).ownBlock ∧ some k_ ≠ (.slice Ao45 t255.length co45 : Value).ownBlock) (Kd.R_keptB (HO262.out) hkp (fun k_ hk_ hs_ => (hk_.1.2) hs_)) (fun k_ hk_ => ⟨hk_.1.1.1.1.2, hk_.1.1.1.2, hk_.1.1.2, hk_.1.2⟩)); have n9_ := zK (Kd.R_mono (ok' := fun k_ => some k_ ≠ (.slice Ao32 t240.length co32 : Value).ownBlock ∧ some k_ ≠ (.slice Ao40 t251.length co40 : Value).ownBlock) (Kd.R_keptB ((Kd.R_apart' HO266.out (Kd.R_typed HO250.out) (by decide))) hkp (fun k_ hk_ hs_ => (hk_.2) hs_)) (fun k_ hk_ => ⟨hk_.1.1.1.2, hk_.1.1.2⟩)); have n10_ := zK (hb); clear HO239; clear HO242; clear HO246; clear BK247; clear HO250; clear HO253; clear HO257; clear BK258; clear HO262; clear HO266; clear HB; have HO239 := n0_; have HO242 := n1_; have HO246 := n2_; have BK247 := n3_; have HO250 := n4_; have HO253 := n5_; have HO257 := n6_; have BK258 := n7_; have HO262 := n8_; have HO266 := n9_; have HB := n10_; clear n0_ n1_ n2_ n3_ n4_ n5_ n6_ n7_ n8_ n9_ n10_; (try clear hb); (try clear hkp); (try clear hy0)) | ((with_reducible refine gate_callee (f := 39) rfl ?_); refine goesL_ (some 55) rfl rfl Tryd.func39 (by kernel_rfl) rfl #[.slice Ao40 t251.length co40, .int .i64 t268] rfl (by (try simp only [List.map_toArray, List.map_cons, List.map_nil]); first | done | rfl | (simp only [List.length_drop, List.length_take]; rfl)) ?_; (with_reducible refine (laws_markDeltaS.calls (fun k_ => some k_ = (.slice Ao40 t251.length co40 : Value).ownBlock) (.slice Ao40 t251.length co40) t251 t268 t270 t271 w _ ?side1 ?side2 A25.out).mono ?_); (case side1 => repeat (first | (with_reducible first | exact HB.out | apply zA | apply zN | apply zD | refine below_set ?_ GE247.out | refine below_set ?_ GE258.out) | exact HB.out)); (case side2 => exact Kd.R_tight rfl HO253.out); rintro e w55 ⟨rfl, hy0, hb, hkp⟩; refine ⟨_, rfl, ?_⟩; have n0_ := zK (Kd.R_mono (ok' := fun k_ => some k_ ≠ (.slice Ao36 t244.length co36 : Value).ownBlock ∧ some k_ ≠ (.slice Ao39 t248.length co39 : Value).ownBlock ∧ some k_ ≠ (.slice Ao45 t255.length co45 : Value).ownBlock ∧ some k_ ≠ (.slice Ao49 t260.length co49 : Value).ownBlock) (Kd.R_keptB ((Kd.R_apart' HO239.out (Kd.R_typed HO253.out) (by decide))) hkp (fun k_ hk_ hs_ => (hk_.2) hs_)) (fun k_ hk_ => ⟨hk_.1.1.1, hk_.1.1.2.1, hk_.1.1.2.2.1, hk_.1.1.2.2.2⟩)); have n1_ := zK (Kd.R_mono (ok' := fun k_ => some k_ ≠ (.slice Ao40 t251.length co40 : Value).ownBlock ∧ some k_ ≠ (.slice Ao52 t264.length co52 : Value).ownBlock) (Kd.R_keptB (HO242.out) hkp (fun k_ hk_ hs_ => (hk_.1) hs_)) (fun k_ hk_ => ⟨hk_.1.1, hk_.1.2⟩)); have n2_ := zK (Kd.R_mono (ok' := fun k_ => some k_ ≠ (.slice Ao31 t237.length co31 : Value).ownBlock ∧ some k_ ≠ (.slice Ao39 t248.length co39 : Value).ownBlock ∧ some k_ ≠ (.slice Ao45 t255.length co45 : Value).ownBlock ∧ some k_ ≠ (.slice Ao49 t260.length co49 : Value).ownBlock) (Kd.R_keptB ((Kd.R_apart' HO246.out (Kd.R_typed HO253.out) (by decide))) hkp (fun k_ hk_ hs_ => (hk_.2) hs_)) (fun k_ hk_ => ⟨hk_.1.1.1, hk_.1.1.2.1, hk_.1.1.2.2.1, hk_.1.1.2.2.2⟩)); have n3_ := zK (blk_kept (by (with_reducible repeat (first | refine zM ?_ _ | refine zP ?_ | refine zQ ?_ _)); exact BK247.out) hkp (fun hs_ => (fun e_ => (Kd.R_ne HO253.out BK247.out (by decide)) e_) hs_)); have n4_ := zK (Kd.R_mono (ok' := fun k_ => some k_ ≠ (.slice Ao31 t237.length co31 : Value).ownBlock ∧ some k_ ≠ (.slice Ao36 t244.length co36 : Value).ownBlock ∧ some k_ ≠ (.slice Ao45 t255.length co45 : Value).ownBlock ∧ some k_ ≠ (.slice Ao49 t260.length co49 : Value).ownBlock) (Kd.R_keptB ((Kd.R_apart' HO250.out (Kd.R_typed HO253.out) (by decide))) hkp (fun k_ hk_ hs_ => (hk_.2) hs_)) (fun k_ hk_ => ⟨hk_.1.1.1.1.1.2, hk_.1.1.1.1.2, hk_.1.1.1.2, hk_.1.1.2⟩)); have n5_ := zK (Kd.R_reok rfl hy0 (fun k_ e_ => HO253.out.1 k_ e_)); have n6_ := zK (Kd.R_mono (ok' := fun k_ => some k_ ≠ (.slice Ao31 t237.length co31 : Value).ownBlock ∧ some k_ ≠ (.slice Ao36 t244.length co36 : Value).ownBlock ∧ some k_ ≠ (.slice Ao39 t248.length co39 : Value).ownBlock ∧ some k_ ≠ (.slice Ao49 t260.length co49 : Value).ownBlock) (Kd.R_keptB ((Kd.R_apart' HO257.out (Kd.R_typed HO253.out) (by decide))) hkp (fun k_ hk_ hs_ => (hk_.2) hs_)) (fun k_ hk_ => ⟨hk_.1.1.1, hk_.1.1.2.1, hk_.1.1.2.2.1, hk_.1.1.2.2.2⟩)); have n7_ := zK (blk_kept (by (with_reducible repeat (first | refine zM ?_ _ | refine zP ?_ | refine zQ ?_ _)); exact BK258.out) hkp (fun hs_ => (fun e_ => (Kd.R_ne HO253.out BK258.out (by decide)) e_) hs_)); have n8_ := zK (Kd.R_mono (ok' := fun k_ => some k_ ≠ (.slice Ao31 t237.length co31 : Value).ownBlock ∧ some k_ ≠ (.slice Ao36 t244.length co36 : Value).ownBlock ∧ some k_ ≠ (.slice Ao39 t248.length co39 : Value).ownBlock ∧ some k_ ≠ (.slice Ao45 t255.length co45 : Value).ownBlock) (Kd.R_keptB ((Kd.R_apart' HO262.out (Kd.R_typed HO253.out) (by decide))) hkp (fun k_ hk_ hs_ => (hk_.2) hs_)) (fun k_ hk_ => ⟨hk_.1.1.1, hk_.1.1.2.1, hk_.1.1.2.2.1, hk_.1.1.2.2.2⟩)); have n9_ := zK (Kd.R_mono (ok' := fun k_ => some k_ ≠ (.slice Ao32 t240.length co32 : Value).ownBlock ∧ some k_ ≠ (.slice Ao40 t251.length co40 : Value).ownBlock) (Kd.R_keptB (HO266.out) hkp (fun k_ hk_ hs_ => (hk_.2) hs_)) (fun k_ hk_ => ⟨hk_.1.1, hk_.1.2⟩)); have n10_ := zK (hb); clear HO239; clear HO242; clear HO246; clear BK247; clear HO250; clear HO253; clear HO257; clear BK258; clear HO262; clear HO266; clear HB; have HO239 := n0_; have HO242 := n1_; have HO246 := n2_; have BK247 := n3_; have HO250 := n4_; have HO253 := n5_; have HO257 := n6_; have BK258 := n7_; have HO262 := n8_; have HO266 := n9_; have HB := n10_; clear n0_ n1_ n2_ n3_ n4_ n5_ n6_ n7_ n8_ n9_ n10_; (try clear hb); (try clear hkp); (try clear hy0)))
      (try simp only [Act.put, zS, zT, zU])
      go_cut [63] (fun v63 wc => ∃ (kq : Nat) (x63_25 : Bool), v63 = .bool x63_25 ∧ Aside0 (laws_FnExactApplyDeltas.j0 kq l0 l1 x63_25 t243 t244 t254 t255 = some r) ∧ Aside0 (kq ≤ k) ∧ Aside0 (Kd.R k106 106 wc w.heap.size (fun k_ => some k_ ≠ ((.slice Ao45 t255.length co45) : Value).ownBlock) (.slice Ao36 t244.length co36) t244) ∧ Aside0 (Kd.R k106 106 wc w.heap.size (fun k_ => some k_ ≠ ((.slice Ao36 t244.length co36) : Value).ownBlock) (.slice Ao45 t255.length co45) t255) ∧ Aside0 (wc.heap[gb247]? = some (.cells #[.int .i64 t243, (.slice Ao36 t244.length co36)] 26 (0, 0))) ∧ Aside0 (wc.heap[gb258]? = some (.cells #[.int .i64 t254, (.slice Ao45 t255.length co45)] 26 (0, 0))) ∧ Aside0 (Below w.heap.size w wc))
      case first =>
       have H := HC26.out
       clear HC26
       by_cases c56 : t270 < 0
       ·
        rw [if_pos c56] at H
        have c56b0 : decide (t270 < 0) = true := decide_eq_true c56
        clear c56
        (first | rw [c56b0] | (simp only [i64_w, i32_w]; rw [c56b0]) | skip)
        have H' := zK H
        clear H
        go_wp2
        go_meet
        case rel => exact ⟨_, (true), (by first | rfl | (simp; done) | (simp [*]; done)), H', ⟨by first | omega | exact Nat.le_refl _⟩, ⟨by (with_reducible repeat (first | apply zR | apply zV | apply zW)); exact Kd.R_mono HO246.out (fun _ hk => hk.2.2.1)⟩, ⟨by (with_reducible repeat (first | apply zR | apply zV | apply zW)); exact Kd.R_mono HO257.out (fun _ hk => hk.2.1)⟩, ⟨by (with_reducible repeat (first | refine zM ?_ _ | refine zP ?_ | refine zQ ?_ _)); exact BK247.out⟩, ⟨by (with_reducible repeat (first | refine zM ?_ _ | refine zP ?_ | refine zQ ?_ _)); exact BK258.out⟩, ⟨by repeat (first | (with_reducible first | exact HB.out | apply zA | apply zN | apply zD | refine below_set ?_ GE247.out | refine below_set ?_ GE258.out) | exact HB.out)⟩⟩
       ·
        rw [if_neg c56] at H
        have c56b0 : decide (t270 < 0) = false := decide_eq_false c56
        clear c56
        (first | rw [c56b0] | (simp only [i64_w, i32_w]; rw [c56b0]) | skip)
        replace H := Option.bind_eq_some_iff.mp H
        obtain ⟨t272, A570, H⟩ := H
        replace H : (laws_FnExactApplyDeltas.j0 k l0 l1 (!t272) t243 t244 t254 t255) = some r := H
        have A57 := zK A570
        clear A570
        have H' := zK H
        clear H
        have hnb58 := NB258_247.out
        have hnc58 := NB247_258.out
        have hcz59_0 : w55.cell? ⟨gb258, 0, none⟩ = some (.int .i64 t254) := (blk_cell BK258.out 0).trans rfl
        have hcz59_1 : w55.cell? ⟨gb258, 1, none⟩ = some (.slice Ao45 t255.length co45) := (blk_cell BK258.out 1).trans rfl
        have hfz59_0 := blk_frozen BK258.out 0
        have hfz59_1 := blk_frozen BK258.out 1
        have hcz60_0 : w55.cell? ⟨gb247, 0, none⟩ = some (.int .i64 t243) := (blk_cell BK247.out 0).trans rfl
        have hcz60_1 : w55.cell? ⟨gb247, 1, none⟩ = some (.slice Ao36 t244.length co36) := (blk_cell BK247.out 1).trans rfl
        have hfz60_0 := blk_frozen BK247.out 0
        have hfz60_1 := blk_frozen BK247.out 1
        go_wp2_with (first | (go_at_call 13; (with_reducible refine (laws_eqFilesResult.calls k t254 _ _ t255 t243 _ _ t244 t272 _ ?side1 ?side2 ?side3 ?side4 A57.out).mono ?_); (case side1 => repeat (first | exact (Kd.R_reads' HO257.out).2.2 | (with_reducible refine Kd.C_alloc ?_ _) | (with_reducible refine Kd.C_drewN ?_ _) | (with_reducible refine Kd.C_drew ?_))); (case side2 => exact (Kd.R_reads' HO257.out).2.1); (case side3 => repeat (first | exact (Kd.R_reads' HO246.out).2.2 | (with_reducible refine Kd.C_alloc ?_ _) | (with_reducible refine Kd.C_drewN ?_ _) | (with_reducible refine Kd.C_drew ?_))); (case side4 => exact (Kd.R_reads' HO246.out).2.1); rintro e w61 ⟨rfl, hb⟩; have n0_ := zK (Kd.R_below (by (with_reducible repeat (first | apply zR | apply zV | apply zW)); exact HO239.out) hb); have n1_ := zK (Kd.R_below (by (with_reducible repeat (first | apply zR | apply zV | apply zW)); exact HO242.out) hb); have n2_ := zK (Kd.R_below (by (with_reducible repeat (first | apply zR | apply zV | apply zW)); exact HO246.out) hb); have n3_ := zK (Kd.R_below (by (with_reducible repeat (first | apply zR | apply zV | apply zW)); exact HO250.out) hb); have n4_ := zK (Kd.R_below (by (with_reducible repeat (first | apply zR | apply zV | apply zW)); exact HO253.out) hb); have n5_ := zK (Kd.R_below (by (with_reducible repeat (first | apply zR | apply zV | apply zW)); exact HO257.out) hb); have n6_ := zK (Kd.R_below (by (with_reducible repeat (first | apply zR | apply zV | apply zW)); exact HO262.out) hb); have n7_ := zK (Kd.R_below (by (with_reducible repeat (first | apply zR | apply zV | apply zW)); exact HO266.out) hb); have n8_ := zK (blk_below (g := gb247) (o := .cells #[.int .i64 t243, .slice Ao36 t244.length co36] 26 (0, 0)) (by (with_reducible repeat (first | refine zM ?_ _ | refine zP ?_ | refine zQ ?_ _)); exact BK247.out) hb); have n9_ := zK (blk_below (g := gb258) (o := .cells #[.int .i64 t254, .slice Ao45 t255.length co45] 26 (0, 0)) (by (with_reducible repeat (first | refine zM ?_ _ | refine zP ?_ | refine zQ ?_ _)); exact BK258.out) hb); have n10_ := zK (below_step (by repeat (first | (with_reducible first | exact HB.out | apply zA | apply zN | apply zD | refine below_set ?_ GE247.out | refine below_set ?_ GE258.out) | exact HB.out)) hb); clear HO239; clear HO242; clear HO246; clear HO250; clear HO253; clear HO257; clear HO262; clear HO266; clear BK247; clear BK258; clear HB; have HO239 := n0_; have HO242 := n1_; have HO246 := n2_; have HO250 := n3_; have HO253 := n4_; have HO257 := n5_; have HO262 := n6_; have HO266 := n7_; have BK247 := n8_; have BK258 := n9_; have HB := n10_; clear n0_ n1_ n2_ n3_ n4_ n5_ n6_ n7_ n8_ n9_ n10_; (try clear hb); (try clear hb2); (try clear hk); (try clear hi)))
        go_meet
        case rel => exact ⟨_, (!t272), (by first | rfl | (simp; done) | (simp [*]; done)), H', ⟨by first | omega | exact Nat.le_refl _⟩, ⟨by (with_reducible repeat (first | apply zR | apply zV | apply zW)); exact Kd.R_mono HO246.out (fun _ hk => hk.2.2.1)⟩, ⟨by (with_reducible repeat (first | apply zR | apply zV | apply zW)); exact Kd.R_mono HO257.out (fun _ hk => hk.2.1)⟩, ⟨by (with_reducible repeat (first | refine zM ?_ _ | refine zP ?_ | refine zQ ?_ _)); exact BK247.out⟩, ⟨by (with_reducible repeat (first | refine zM ?_ _ | refine zP ?_ | refine zQ ?_ _)); exact BK258.out⟩, ⟨by repeat (first | (with_reducible first | exact HB.out | apply zA | apply zN | apply zD | refine below_set ?_ GE247.out | refine below_set ?_ GE258.out) | exact HB.out)⟩⟩
      case rest =>
       clear HC26
       try clear c1
       try clear c2
       try clear p2
       try clear c3
       try clear c4
       try clear c4b0
       try clear c5
       try clear c6
       try clear c7
       try clear c7b0
       try clear c13
       try clear c17
       try clear c20
       try clear c23
       try clear c30
       try clear c31
       try clear c32
       try clear c33
       try clear c34
       try clear c35
       try clear c36
       try clear c37
       try clear c38
       try clear c39
       try clear c43
       try clear c56
       try clear c56b0
       try clear c58
       try clear hcz35_0
       try clear hcz35_1
       try clear hcz44_0
       try clear hcz44_1
       try clear hcz46_0
       try clear hcz46_1
       try clear hcz59_0
       try clear hcz59_1
       try clear hcz60_0
       try clear hcz60_1
       try clear hfz35_0
       try clear hfz35_1
       try clear hfz44_0
       try clear hfz44_1
       try clear hfz46_0
       try clear hfz46_1
       try clear hfz59_0
       try clear hfz59_1
       try clear hfz60_0
       try clear hfz60_1
       obtain ⟨kq, x63_25, rfl, HA, HJ25, HO_248001, HO_259001, BK247, BK258, HB⟩ := hcut
       cases kq with
       | zero => exact absurd HA.out (by simp [laws_FnExactApplyDeltas.j0])
       | succ kj25 =>
        have H := HA.out
        clear HA
        simp only [laws_FnExactApplyDeltas.j0] at H
        by_cases c62 : x63_25 = true
        ·
         subst c62
         have H1 : (some false) = some r := by rw [if_pos rfl] at H; exact H
         clear H
         have H := H1
         clear H1
         exact absurd ((Option.some.inj H).trans hT_) (by decide)
        ·
         replace c62 := Bool.eq_false_iff.mpr c62
         subst c62
         have H1 : ((laws_markFilesResult.f kj25 t254 t255 1).bind fun bt273 => ((laws_heldFilesResult.f kj25 t254 bt273.2 1).bind fun t275 => (if t275 < 0 then (some false) else (if t275 = bt273.1 then ((laws_toFileS.f kj25 l0).bind fun t276 => ((laws_toDeltaS.f kj25 l1).bind fun t279 => ((impl_ApplyDeltas.f kj25 t276 t279).bind fun bt282 => ((laws_eqFilesResult.f kj25 bt282.1 bt282.2 t243 t244).bind fun t287 => (if t287 = true then ((laws_heldFilesResult.f kj25 t254 bt273.2 1).bind fun t288 => (if t288 < 0 then (some false) else (if t288 = bt273.1 then (some true) else (some false)))) else (some false)))))) else (some false))))) = some r := by rw [if_neg (show ¬ (false = true) by decide)] at H; exact H
         clear H
         have H := H1
         clear H1
         replace H := Option.bind_eq_some_iff.mp H
         obtain ⟨⟨t273, t274⟩, A630, H⟩ := H
         replace H : ((laws_heldFilesResult.f kj25 t254 t274 1).bind fun t275 => (if t275 < 0 then (some false) else (if t275 = t273 then ((laws_toFileS.f kj25 l0).bind fun t276 => ((laws_toDeltaS.f kj25 l1).bind fun t279 => ((impl_ApplyDeltas.f kj25 t276 t279).bind fun bt282 => ((laws_eqFilesResult.f kj25 bt282.1 bt282.2 t243 t244).bind fun t287 => (if t287 = true then ((laws_heldFilesResult.f kj25 t254 t274 1).bind fun t288 => (if t288 < 0 then (some false) else (if t288 = t273 then (some true) else (some false)))) else (some false)))))) else (some false)))) = some r := H
         have A63 := zK A630
         clear A630
         replace H := Option.bind_eq_some_iff.mp H
         obtain ⟨t275, A640, H⟩ := H
         replace H : (if t275 < 0 then (some false) else (if t275 = t273 then ((laws_toFileS.f kj25 l0).bind fun t276 => ((laws_toDeltaS.f kj25 l1).bind fun t279 => ((impl_ApplyDeltas.f kj25 t276 t279).bind fun bt282 => ((laws_eqFilesResult.f kj25 bt282.1 bt282.2 t243 t244).bind fun t287 => (if t287 = true then ((laws_heldFilesResult.f kj25 t254 t274 1).bind fun t288 => (if t288 < 0 then (some false) else (if t288 = t273 then (some true) else (some false)))) else (some false)))))) else (some false))) = some r := H
         have A64 := zK A640
         clear A640
         by_cases c65 : t275 < 0
         ·
          rw [if_pos c65] at H
          have c65b0 : decide (t275 < 0) = true := decide_eq_true c65
          clear c65
          exact absurd ((Option.some.inj H).trans hT_) (by decide)
         ·
          rw [if_neg c65] at H
          have c65b0 : decide (t275 < 0) = false := decide_eq_false c65
          clear c65
          by_cases c71 : t275 = t273
          ·
           rw [if_pos c71] at H
           have c71b0 : (t275 == t273) = true := beq_iff_eq.mpr c71
           have c71b1 : (t275 != t273) = false := bne_eq_false_iff_eq.mpr c71
           clear c71
           replace H := Option.bind_eq_some_iff.mp H
           obtain ⟨t276, A720, H⟩ := H
           replace H : ((laws_toDeltaS.f kj25 l1).bind fun t279 => ((impl_ApplyDeltas.f kj25 t276 t279).bind fun bt282 => ((laws_eqFilesResult.f kj25 bt282.1 bt282.2 t243 t244).bind fun t287 => (if t287 = true then ((laws_heldFilesResult.f kj25 t254 t274 1).bind fun t288 => (if t288 < 0 then (some false) else (if t288 = t273 then (some true) else (some false)))) else (some false))))) = some r := H
           have A72 := zK A720
           clear A720
           replace H := Option.bind_eq_some_iff.mp H
           obtain ⟨t279, A730, H⟩ := H
           replace H : ((impl_ApplyDeltas.f kj25 t276 t279).bind fun bt282 => ((laws_eqFilesResult.f kj25 bt282.1 bt282.2 t243 t244).bind fun t287 => (if t287 = true then ((laws_heldFilesResult.f kj25 t254 t274 1).bind fun t288 => (if t288 < 0 then (some false) else (if t288 = t273 then (some true) else (some false)))) else (some false)))) = some r := H
           have A73 := zK A730
           clear A730
           replace H := Option.bind_eq_some_iff.mp H
           obtain ⟨⟨t282, t283⟩, A740, H⟩ := H
           replace H : ((laws_eqFilesResult.f kj25 t282 t283 t243 t244).bind fun t287 => (if t287 = true then ((laws_heldFilesResult.f kj25 t254 t274 1).bind fun t288 => (if t288 < 0 then (some false) else (if t288 = t273 then (some true) else (some false)))) else (some false))) = some r := H
           have A74 := zK A740
           clear A740
           replace H := Option.bind_eq_some_iff.mp H
           obtain ⟨t287, A750, H⟩ := H
           replace H : (if t287 = true then ((laws_heldFilesResult.f kj25 t254 t274 1).bind fun t288 => (if t288 < 0 then (some false) else (if t288 = t273 then (some true) else (some false)))) else (some false)) = some r := H
           have A75 := zK A750
           clear A750
           by_cases c76 : t287 = true
           ·
            subst c76
            have H1 : ((laws_heldFilesResult.f kj25 t254 t274 1).bind fun t288 => (if t288 < 0 then (some false) else (if t288 = t273 then (some true) else (some false)))) = some r := by rw [if_pos rfl] at H; exact H
            clear H
            have H := H1
            clear H1
            replace H := Option.bind_eq_some_iff.mp H
            obtain ⟨t288, A770, H⟩ := H
            replace H : (if t288 < 0 then (some false) else (if t288 = t273 then (some true) else (some false))) = some r := H
            have A77 := zK A770
            clear A770
            by_cases c78 : t288 < 0
            ·
             rw [if_pos c78] at H
             have c78b0 : decide (t288 < 0) = true := decide_eq_true c78
             clear c78
             exact absurd ((Option.some.inj H).trans hT_) (by decide)
            ·
             rw [if_neg c78] at H
             have c78b0 : decide (t288 < 0) = false := decide_eq_false c78
             clear c78
             by_cases c98 : t288 = t273
             ·
              rw [if_pos c98] at H
              have c98b0 : (t288 == t273) = true := beq_iff_eq.mpr c98
              have c98b1 : (t288 != t273) = false := bne_eq_false_iff_eq.mpr c98
              clear c98
              obtain rfl := Option.some.inj H
              have hnb99 := NB258_247.out
              have hnc99 := NB247_258.out
              have hcz100_0 : wc.cell? ⟨gb258, 0, none⟩ = some (.int .i64 t254) := (blk_cell BK258.out 0).trans rfl
              have hcz100_1 : wc.cell? ⟨gb258, 1, none⟩ = some (.slice Ao45 t255.length co45) := (blk_cell BK258.out 1).trans rfl
              have hfz100_0 := blk_frozen BK258.out 0
              have hfz100_1 := blk_frozen BK258.out 1
              go_wp2_with (first | ((with_reducible refine gate_callee (f := 16) rfl ?_); refine goesL_ (some 66) rfl rfl Tryd.func16 (by kernel_rfl) rfl #[.agg #[.int .i64 t254, .slice Ao45 t255.length co45], .int .i64 1] rfl (by (try simp only [List.map_toArray, List.map_cons, List.map_nil]); first | done | rfl | (simp only [List.length_drop, List.length_take]; rfl)) ?_; (with_reducible refine (laws_markFilesResult.calls kj25 t254 (fun k_ => some k_ = (.slice Ao45 t255.length co45 : Value).ownBlock) (.slice Ao45 t255.length co45) t255 1 t273 t274 w _ ?side1 ?side2 A63.out).mono ?_); (case side1 => repeat (first | (with_reducible first | exact HB.out | apply zA | apply zN | apply zD | refine below_set ?_ GE247.out | refine below_set ?_ GE258.out) | exact HB.out)); (case side2 => exact Kd.R_tight rfl HO_259001.out); rintro e w101 ⟨rfl, hy0, hb, hkp⟩; refine ⟨_, rfl, ?_⟩; have n0_ := zK (Kd.R_mono (ok' := fun k_ => some k_ ≠ (.slice Ao45 t255.length co45 : Value).ownBlock) (Kd.R_keptB (HO_248001.out) hkp (fun k_ hk_ hs_ => (hk_) hs_)) (fun k_ hk_ => hk_.1)); have n1_ := zK (Kd.R_reok rfl hy0 (fun k_ e_ => HO_259001.out.1 k_ e_)); have n2_ := zK (blk_kept (by (with_reducible repeat (first | refine zM ?_ _ | refine zP ?_ | refine zQ ?_ _)); exact BK247.out) hkp (fun hs_ => (fun e_ => (Kd.R_ne HO_259001.out BK247.out (by decide)) e_) hs_)); have n3_ := zK (blk_kept (by (with_reducible repeat (first | refine zM ?_ _ | refine zP ?_ | refine zQ ?_ _)); exact BK258.out) hkp (fun hs_ => (fun e_ => (Kd.R_ne HO_259001.out BK258.out (by decide)) e_) hs_)); have n4_ := zK (hb); clear HO_248001; clear HO_259001; clear BK247; clear BK258; clear HB; have HO_248001 := n0_; have HO_259001 := n1_; have BK247 := n2_; have BK258 := n3_; have HB := n4_; clear n0_ n1_ n2_ n3_ n4_; (try clear hb); (try clear hkp); (try clear hy0); have hcz102_0 : w101.cell? ⟨gb258, 0, none⟩ = some (.int .i64 t254) := (blk_cell BK258.out 0).trans rfl; have hcz102_1 : w101.cell? ⟨gb258, 1, none⟩ = some (.slice Ao45 t255.length co45) := (blk_cell BK258.out 1).trans rfl; have hfz102_0 := blk_frozen BK258.out 0; have hfz102_1 := blk_frozen BK258.out 1) | ((with_reducible refine gate_callee (f := 17) rfl ?_); refine goesL_ (some 69) rfl rfl Tryd.func17 (by kernel_rfl) rfl #[.agg #[.int .i64 t254, .slice Ao45 t274.length co45], .int .i64 1] rfl (by (try simp only [List.map_toArray, List.map_cons, List.map_nil]); first | done | (rw [show t274.length = t255.length from (Kd.R_reads' HO_259001.out).1.symm] <;> rfl) | rfl | (simp only [List.length_drop, List.length_take]; rfl)) ?_; (with_reducible refine (laws_heldFilesResult.calls kj25 t254 _ _ t274 1 t275 _ ?side1 ?side2 A64.out).mono ?_); (case side1 => repeat (first | exact (Kd.R_reads' HO_259001.out).2.2 | (with_reducible refine Kd.C_alloc ?_ _) | (with_reducible refine Kd.C_drewN ?_ _) | (with_reducible refine Kd.C_drew ?_))); (case side2 => rw [show t274.length = t255.length from (Kd.R_reads' HO_259001.out).1.symm]; exact (Kd.R_reads' HO_259001.out).2.1); rintro e w103 ⟨rfl, hb⟩; refine ⟨_, rfl, ?_⟩; have n0_ := zK (Kd.R_below (by (with_reducible repeat (first | apply zR | apply zV | apply zW)); exact HO_248001.out) hb); have n1_ := zK (Kd.R_below (by (with_reducible repeat (first | apply zR | apply zV | apply zW)); exact HO_259001.out) hb); have n2_ := zK (blk_below (g := gb247) (o := .cells #[.int .i64 t243, .slice Ao36 t244.length co36] 26 (0, 0)) (by (with_reducible repeat (first | refine zM ?_ _ | refine zP ?_ | refine zQ ?_ _)); exact BK247.out) hb); have n3_ := zK (blk_below (g := gb258) (o := .cells #[.int .i64 t254, .slice Ao45 t255.length co45] 26 (0, 0)) (by (with_reducible repeat (first | refine zM ?_ _ | refine zP ?_ | refine zQ ?_ _)); exact BK258.out) hb); have n4_ := zK (below_step (by repeat (first | (with_reducible first | exact HB.out | apply zA | apply zN | apply zD | refine below_set ?_ GE247.out | refine below_set ?_ GE258.out) | exact HB.out)) hb); clear HO_248001; clear HO_259001; clear BK247; clear BK258; clear HB; have HO_248001 := n0_; have HO_259001 := n1_; have BK247 := n2_; have BK258 := n3_; have HB := n4_; clear n0_ n1_ n2_ n3_ n4_; (try clear hb); (try clear hb2); (try clear hk); (try clear hi)) | ((with_reducible refine gate_callee (f := 33) rfl ?_); refine goesL_ (some 76) rfl rfl Tryd.func33 (by kernel_rfl) rfl #[.slice A0 l0.length c0] rfl (by (try simp only [List.map_toArray, List.map_cons, List.map_nil]); first | done | rfl | (simp only [List.length_drop, List.length_take]; rfl)) ?_; (with_reducible refine (laws_toFileS.calls kj25 _ _ l0 t276 _ ?side1 ?side2 A72.out).mono ?_); (case side1 => repeat (first | exact (Kd.C_below HR0.out HB.out) | (with_reducible refine Kd.C_alloc ?_ _) | (with_reducible refine Kd.C_drewN ?_ _) | (with_reducible refine Kd.C_drew ?_))); (case side2 => exact HC0.out); rintro e w104 ⟨v277, rfl, ho0, hb⟩; refine ⟨_, rfl, ?_⟩; have n0_ := zK (Kd.R_elder' (by (with_reducible repeat (first | apply zR | apply zV | apply zW)); exact HO_248001.out) (Kd.R_base ho0) hb); have n1_ := zK (Kd.R_elder' (by (with_reducible repeat (first | apply zR | apply zV | apply zW)); exact HO_259001.out) (Kd.R_base ho0) hb); have n2_ := zK (Kd.R_lower (Kd.R_new' (Kd.R_new' ho0 (Kd.R_lt (by (with_reducible repeat (first | apply zR | apply zV | apply zW)); exact HO_248001.out))) (Kd.R_lt (by (with_reducible repeat (first | apply zR | apply zV | apply zW)); exact HO_259001.out))) (below_size (by repeat (first | (with_reducible first | exact HB.out | apply zA | apply zN | apply zD | refine below_set ?_ GE247.out | refine below_set ?_ GE258.out) | exact HB.out)))); have n3_ := zK (blk_below (g := gb247) (o := .cells #[.int .i64 t243, .slice Ao36 t244.length co36] 26 (0, 0)) (by (with_reducible repeat (first | refine zM ?_ _ | refine zP ?_ | refine zQ ?_ _)); exact BK247.out) hb); have n4_ := zK (blk_below (g := gb258) (o := .cells #[.int .i64 t254, .slice Ao45 t255.length co45] 26 (0, 0)) (by (with_reducible repeat (first | refine zM ?_ _ | refine zP ?_ | refine zQ ?_ _)); exact BK258.out) hb); have n5_ := zK (below_step (by repeat (first | (with_reducible first | exact HB.out | apply zA | apply zN | apply zD | refine below_set ?_ GE247.out | refine below_set ?_ GE258.out) | exact HB.out)) hb); clear HO_248001; clear HO_259001; clear BK247; clear BK258; clear HB; have HO_248001 := n0_; have HO_259001 := n1_; have HO278 := n2_; have BK247 := n3_; have BK258 := n4_; have HB := n5_; clear n0_ n1_ n2_ n3_ n4_ n5_; (try clear hb); (try clear hb2); (try clear hk); (try clear hi); (try clear ho0)) | ((with_reducible refine gate_callee (f := 34) rfl ?_); refine goesL_ (some 78) rfl rfl Tryd.func34 (by kernel_rfl) rfl #[.slice A1 l1.length c1] rfl (by (try simp only [List.map_toArray, List.map_cons, List.map_nil]); first | done | rfl | (simp only [List.length_drop, List.length_take]; rfl)) ?_; (with_reducible refine (laws_toDeltaS.calls kj25 _ _ l1 t279 _ ?side1 ?side2 A73.out).mono ?_); (case side1 => repeat (first | exact (Kd.C_below HR1.out HB.out) | (with_reducible refine Kd.C_alloc ?_ _) | (with_reducible refine Kd.C_drewN ?_ _) | (with_reducible refine Kd.C_drew ?_))); (case side2 => exact HC1.out); rintro e w105 ⟨v280, rfl, ho0, hb⟩; refine ⟨_, rfl, ?_⟩; have n0_ := zK (Kd.R_below (by (with_reducible repeat (first | apply zR | apply zV | apply zW)); exact HO_248001.out) hb); have n1_ := zK (Kd.R_below (by (with_reducible repeat (first | apply zR | apply zV | apply zW)); exact HO_259001.out) hb); have n2_ := zK (Kd.R_below (by (with_reducible repeat (first | apply zR | apply zV | apply zW)); exact HO278.out) hb); have n3_ := zK (Kd.R_lower ho0 (below_size (by repeat (first | (with_reducible first | exact HB.out | apply zA | apply zN | apply zD | refine below_set ?_ GE247.out | refine below_set ?_ GE258.out) | exact HB.out)))); have n4_ := zK (blk_below (g := gb247) (o := .cells #[.int .i64 t243, .slice Ao36 t244.length co36] 26 (0, 0)) (by (with_reducible repeat (first | refine zM ?_ _ | refine zP ?_ | refine zQ ?_ _)); exact BK247.out) hb); have n5_ := zK (blk_below (g := gb258) (o := .cells #[.int .i64 t254, .slice Ao45 t255.length co45] 26 (0, 0)) (by (with_reducible repeat (first | refine zM ?_ _ | refine zP ?_ | refine zQ ?_ _)); exact BK258.out) hb); have n6_ := zK (below_step (by repeat (first | (with_reducible first | exact HB.out | apply zA | apply zN | apply zD | refine below_set ?_ GE247.out | refine below_set ?_ GE258.out) | exact HB.out)) hb); clear HO_248001; clear HO_259001; clear HO278; clear BK247; clear BK258; clear HB; have HO_248001 := n0_; have HO_259001 := n1_; have HO278 := n2_; have HO281 := n3_; have BK247 := n4_; have BK258 := n5_; have HB := n6_; clear n0_ n1_ n2_ n3_ n4_ n5_ n6_; (try clear hb); (try clear hb2); (try clear hk); (try clear hi); (try clear ho0); obtain ⟨Ao106, co106, eo106⟩ := Kd.R_slice HO278.out; subst eo106; obtain ⟨Ao107, co107, eo107⟩ := Kd.R_slice HO281.out; subst eo107) | ((with_reducible refine gate_callee (f := 35) rfl ?_); refine goesL_ (some 79) rfl rfl Tryd.func35 (by kernel_rfl) rfl #[.slice Ao106 t276.length co106, .slice Ao107 t279.length co107] rfl (by (try simp only [List.map_toArray, List.map_cons, List.map_nil]); first | done | rfl | (simp only [List.length_drop, List.length_take]; rfl)) ?_; (with_reducible refine (impl_ApplyDeltas.calls kj25 _ _ t276 _ _ t279 t282 t283 _ ?side1 ?side2 ?side3 ?side4 A74.out).mono ?_); (case side1 => repeat (first | exact (Kd.R_reads' HO278.out).2.2 | (with_reducible refine Kd.C_alloc ?_ _) | (with_reducible refine Kd.C_drewN ?_ _) | (with_reducible refine Kd.C_drew ?_))); (case side2 => exact (Kd.R_reads' HO278.out).2.1); (case side3 => repeat (first | exact (Kd.R_reads' HO281.out).2.2 | (with_reducible refine Kd.C_alloc ?_ _) | (with_reducible refine Kd.C_drewN ?_ _) | (with_reducible refine Kd.C_drew ?_))); (case side4 => exact (Kd.R_reads' HO281.out).2.1); rintro e w108 ⟨v284, rfl, ho0, hb⟩; refine ⟨_, rfl, ?_⟩; have n0_ := zK (Kd.R_elder' (by (with_reducible repeat (first | apply zR | apply zV | apply zW)); exact HO_248001.out) (Kd.R_base ho0) hb); have n1_ := zK (Kd.R_elder' (by (with_reducible repeat (first | apply zR | apply zV | apply zW)); exact HO_259001.out) (Kd.R_base ho0) hb); have n2_ := zK (Kd.R_elder' (by (with_reducible repeat (first | apply zR | apply zV | apply zW)); exact HO278.out) (Kd.R_base ho0) hb); have n3_ := zK (Kd.R_below (by (with_reducible repeat (first | apply zR | apply zV | apply zW)); exact HO281.out) hb); have n4_ := zK (Kd.R_lower (Kd.R_new' (Kd.R_new' (Kd.R_new' ho0 (Kd.R_lt (by (with_reducible repeat (first | apply zR | apply zV | apply zW)); exact HO_248001.out))) (Kd.R_lt (by (with_reducible repeat (first | apply zR | apply zV | apply zW)); exact HO_259001.out))) (Kd.R_lt (by (with_reducible repeat (first | apply zR | apply zV | apply zW)); exact HO278.out))) (below_size (by repeat (first | (with_reducible first | exact HB.out | apply zA | apply zN | apply zD | refine below_set ?_ GE247.out | refine below_set ?_ GE258.out) | exact HB.out)))); have n5_ := zK (blk_below (g := gb247) (o := .cells #[.int .i64 t243, .slice Ao36 t244.length co36] 26 (0, 0)) (by (with_reducible repeat (first | refine zM ?_ _ | refine zP ?_ | refine zQ ?_ _)); exact BK247.out) hb); have n6_ := zK (blk_below (g := gb258) (o := .cells #[.int .i64 t254, .slice Ao45 t255.length co45] 26 (0, 0)) (by (with_reducible repeat (first | refine zM ?_ _ | refine zP ?_ | refine zQ ?_ _)); exact BK258.out) hb); have n7_ := zK (below_step (by repeat (first | (with_reducible first | exact HB.out | apply zA | apply zN | apply zD | refine below_set ?_ GE247.out | refine below_set ?_ GE258.out) | exact HB.out)) hb); clear HO_248001; clear HO_259001; clear HO278; clear HO281; clear BK247; clear BK258; clear HB; have HO_248001 := n0_; have HO_259001 := n1_; have HO278 := n2_; have HO281 := n3_; have HO285 := n4_; have BK247 := n5_; have BK258 := n6_; have HB := n7_; clear n0_ n1_ n2_ n3_ n4_ n5_ n6_ n7_; (try clear hb); (try clear hb2); (try clear hk); (try clear hi); (try clear ho0)) | ((with_reducible refine gate_dst (N := 13) rfl ?_); refine box_event ?hg (N := 13) ?hd (cs := #[.int .i64 0, .slice none 0 0]) (t := 26) ?hr ?_; (case hd => rfl); (case hg => rfl); (case hr => first | (go_simp; done) | (go_simp; rfl)); intro gb286 hg w109 hbox hb; have n0_ := zK (Kd.R_below (by (with_reducible repeat (first | apply zR | apply zV | apply zW)); exact HO_248001.out) hb); have n1_ := zK (Kd.R_below (by (with_reducible repeat (first | apply zR | apply zV | apply zW)); exact HO_259001.out) hb); have n2_ := zK (Kd.R_below (by (with_reducible repeat (first | apply zR | apply zV | apply zW)); exact HO278.out) hb); have n3_ := zK (Kd.R_below (by (with_reducible repeat (first | apply zR | apply zV | apply zW)); exact HO281.out) hb); have n4_ := zK (Kd.R_below (by (with_reducible repeat (first | apply zR | apply zV | apply zW)); exact HO285.out) hb); have n5_ := zK (blk_below (g := gb247) (o := .cells #[.int .i64 t243, .slice Ao36 t244.length co36] 26 (0, 0)) (by (with_reducible repeat (first | refine zM ?_ _ | refine zP ?_ | refine zQ ?_ _)); exact BK247.out) hb); have n6_ := zK (blk_below (g := gb258) (o := .cells #[.int .i64 t254, .slice Ao45 t255.length co45] 26 (0, 0)) (by (with_reducible repeat (first | refine zM ?_ _ | refine zP ?_ | refine zQ ?_ _)); exact BK258.out) hb); have n7_ := zK (below_step (by repeat (first | (with_reducible first | exact HB.out | apply zA | apply zN | apply zD | refine below_set ?_ GE247.out | refine below_set ?_ GE258.out) | exact HB.out)) hb); have n8_ := zK (hbox); have n9_ := zK ((by rw [hg]; exact (below_size (by repeat (first | (with_reducible first | exact HB.out | apply zA | apply zN | apply zD | refine below_set ?_ GE247.out | refine below_set ?_ GE258.out) | exact HB.out))) : w.heap.size ≤ gb286)); have n10_ := zK ((by rw [hg]; exact (below_size (by repeat (first | (with_reducible first | exact HB.out | apply zA | apply zN | apply zD | refine below_set ?_ GE247.out | refine below_set ?_ GE258.out) | exact HB.out))) : w.heap.size ≤ gb286)); have n11_ := zK ((by rw [hg]; exact Nat.ne_of_lt (blk_lt (g := gb247) (o := .cells #[.int .i64 t243, .slice Ao36 t244.length co36] 26 (0, 0)) (by (with_reducible repeat (first | refine zM ?_ _ | refine zP ?_ | refine zQ ?_ _)); exact BK247.out)) : gb247 ≠ gb286)); have n12_ := zK ((by rw [hg]; exact Nat.ne_of_gt (blk_lt (g := gb247) (o := .cells #[.int .i64 t243, .slice Ao36 t244.length co36] 26 (0, 0)) (by (with_reducible repeat (first | refine zM ?_ _ | refine zP ?_ | refine zQ ?_ _)); exact BK247.out)) : gb286 ≠ gb247)); have n13_ := zK ((by rw [hg]; exact Nat.ne_of_lt (blk_lt (g := gb258) (o := .cells #[.int .i64 t254, .slice Ao45 t255.length co45] 26 (0, 0)) (by (with_reducible repeat (first | refine zM ?_ _ | refine zP ?_ | refine zQ ?_ _)); exact BK258.out)) : gb258 ≠ gb286)); have n14_ := zK ((by rw [hg]; exact Nat.ne_of_gt (blk_lt (g := gb258) (o := .cells #[.int .i64 t254, .slice Ao45 t255.length co45] 26 (0, 0)) (by (with_reducible repeat (first | refine zM ?_ _ | refine zP ?_ | refine zQ ?_ _)); exact BK258.out)) : gb286 ≠ gb258)); clear HO_248001; clear HO_259001; clear HO278; clear HO281; clear HO285; clear BK247; clear BK258; clear HB; have HO_248001 := n0_; have HO_259001 := n1_; have HO278 := n2_; have HO281 := n3_; have HO285 := n4_; have BK247 := n5_; have BK258 := n6_; have HB := n7_; have BK286 := n8_; have GW286 := n9_; have GE286 := n10_; have NB247_286 := n11_; have NB286_247 := n12_; have NB258_286 := n13_; have NB286_258 := n14_; clear n0_ n1_ n2_ n3_ n4_ n5_ n6_ n7_ n8_ n9_ n10_ n11_ n12_ n13_ n14_; clear hb hbox hg; have hnb110 := NB286_247.out; have hnc110 := NB247_286.out; have hnb111 := NB286_258.out; have hnc111 := NB258_286.out; have hcz112_0 : w109.cell? ⟨gb286, 0, none⟩ = some (.int .i64 0) := (blk_cell BK286.out 0).trans rfl; have hcz112_1 : w109.cell? ⟨gb286, 1, none⟩ = some (.slice none 0 0) := (blk_cell BK286.out 1).trans rfl; have hfz112_0 := blk_frozen BK286.out 0; have hfz112_1 := blk_frozen BK286.out 1; obtain ⟨Ao113, co113, eo113⟩ := Kd.R_slice HO285.out; subst eo113; have hcz114_0 : w109.cell? ⟨gb247, 0, none⟩ = some (.int .i64 t243) := (blk_cell BK247.out 0).trans rfl; have hcz114_1 : w109.cell? ⟨gb247, 1, none⟩ = some (.slice Ao36 t244.length co36) := (blk_cell BK247.out 1).trans rfl; have hfz114_0 := blk_frozen BK247.out 0; have hfz114_1 := blk_frozen BK247.out 1) | ((with_reducible refine gate_callee (f := 13) rfl ?_); refine goesL_ (some 82) rfl rfl Tryd.func13 (by kernel_rfl) rfl #[.agg #[.int .i64 t282, .slice Ao113 t283.length co113], .agg #[.int .i64 t243, .slice Ao36 t244.length co36]] rfl (by (try simp only [List.map_toArray, List.map_cons, List.map_nil]); first | done | rfl | (simp only [List.length_drop, List.length_take]; rfl)) ?_; (with_reducible refine (laws_eqFilesResult.calls kj25 t282 _ _ t283 t243 _ _ t244 true _ ?side1 ?side2 ?side3 ?side4 A75.out).mono ?_); (case side1 => refine (Kd.R_reads' (e := 106) (base := w.heap.size) (ok := fun k_ => (((True ∧ some k_ ≠ (.slice Ao36 t244.length co36 : Value).ownBlock) ∧ some k_ ≠ (.slice Ao45 t255.length co45 : Value).ownBlock) ∧ some k_ ≠ (.slice Ao106 t276.length co106 : Value).ownBlock)) (n := t283.length) (c := co113) ?_).2.2; exact (by (with_reducible repeat (first | apply zR | apply zV | apply zW)); exact (Kd.R_mono (Kd.R_far (p := ⟨gb286, 1, none⟩) (Kd.R_far (p := ⟨gb286, 0, none⟩) (Kd.R_types HO285.out BK286.out (by decide)) (fun _ hk => hk.2) (.int .i64 t282)) (fun _ hk => hk.2) (.slice Ao113 t283.length co113)) (fun _ h_ => h_.1)))); (case side2 => exact (Kd.R_reads' HO285.out).2.1); (case side3 => refine (Kd.R_reads' (e := 106) (base := w.heap.size) (ok := fun k_ => ((some k_ ≠ (.slice Ao45 t255.length co45 : Value).ownBlock ∧ some k_ ≠ (.slice Ao106 t276.length co106 : Value).ownBlock) ∧ some k_ ≠ (.slice Ao113 t283.length co113 : Value).ownBlock)) (n := t244.length) (c := co36) ?_).2.2; exact (by (with_reducible repeat (first | apply zR | apply zV | apply zW)); exact (Kd.R_mono (Kd.R_far (p := ⟨gb286, 1, none⟩) (Kd.R_far (p := ⟨gb286, 0, none⟩) (Kd.R_types HO_248001.out BK286.out (by decide)) (fun _ hk => hk.2) (.int .i64 t282)) (fun _ hk => hk.2) (.slice Ao113 t283.length co113)) (fun _ h_ => h_.1)))); (case side4 => exact (Kd.R_reads' HO_248001.out).2.1); rintro e w115 ⟨rfl, hb⟩; refine ⟨_, rfl, ?_⟩; have n0_ := zK (Kd.R_below (by (with_reducible repeat (first | apply zR | apply zV | apply zW)); exact (Kd.R_mono (Kd.R_far (p := ⟨gb286, 1, none⟩) (Kd.R_far (p := ⟨gb286, 0, none⟩) (Kd.R_types HO_248001.out BK286.out (by decide)) (fun _ hk => hk.2) (.int .i64 t282)) (fun _ hk => hk.2) (.slice Ao113 t283.length co113)) (fun _ h_ => h_.1))) hb); have n1_ := zK (Kd.R_below (by (with_reducible repeat (first | apply zR | apply zV | apply zW)); exact (Kd.R_mono (Kd.R_far (p := ⟨gb286, 1, none⟩) (Kd.R_far (p := ⟨gb286, 0, none⟩) (Kd.R_types HO_259001.out BK286.out (by decide)) (fun _ hk => hk.2) (.int .i64 t282)) (fun _ hk => hk.2) (.slice Ao113 t283.length co113)) (fun _ h_ => h_.1))) hb); have n2_ := zK (Kd.R_below (by (with_reducible repeat (first | apply zR | apply zV | apply zW)); exact (Kd.R_mono (Kd.R_far (p := ⟨gb286, 1, none⟩) (Kd.R_far (p := ⟨gb286, 0, none⟩) (Kd.R_types HO278.out BK286.out (by decide)) (fun _ hk => hk.2) (.int .i64 t282)) (fun _ hk => hk.2) (.slice Ao113 t283.length co113)) (fun _ h_ => h_.1))) hb); have n3_ := zK (Kd.R_below (by (with_reducible repeat (first | apply zR | apply zV | apply zW)); exact (Kd.R_mono (Kd.R_far (p := ⟨gb286, 1, none⟩) (Kd.R_far (p := ⟨gb286, 0, none⟩) (Kd.R_types HO281.out BK286.out (by decide)) (fun _ hk => hk.2) (.int .i64 t282)) (fun _ hk => hk.2) (.slice Ao113 t283.length co113)) (fun _ h_ => h_.1))) hb); have n4_ := zK (Kd.R_below (by (with_reducible repeat (first | apply zR | apply zV | apply zW)); exact (Kd.R_mono (Kd.R_far (p := ⟨gb286, 1, none⟩) (Kd.R_far (p := ⟨gb286, 0, none⟩) (Kd.R_types HO285.out BK286.out (by decide)) (fun _ hk => hk.2) (.int .i64 t282)) (fun _ hk => hk.2) (.slice Ao113 t283.length co113)) (fun _ h_ => h_.1))) hb); have n5_ := zK (blk_below (g := gb247) (o := .cells #[.int .i64 t243, .slice Ao36 t244.length co36] 26 (0, 0)) (by (with_reducible repeat (first | refine zM ?_ _ | refine zP ?_ | refine zQ ?_ _)); refine blk_far ?_ NB247_286.out _; (with_reducible repeat (first | refine zM ?_ _ | refine zP ?_ | refine zQ ?_ _)); refine blk_far ?_ NB247_286.out _; (with_reducible repeat (first | refine zM ?_ _ | refine zP ?_ | refine zQ ?_ _)); exact BK247.out) hb); have n6_ := zK (blk_below (g := gb258) (o := .cells #[.int .i64 t254, .slice Ao45 t255.length co45] 26 (0, 0)) (by (with_reducible repeat (first | refine zM ?_ _ | refine zP ?_ | refine zQ ?_ _)); refine blk_far ?_ NB258_286.out _; (with_reducible repeat (first | refine zM ?_ _ | refine zP ?_ | refine zQ ?_ _)); refine blk_far ?_ NB258_286.out _; (with_reducible repeat (first | refine zM ?_ _ | refine zP ?_ | refine zQ ?_ _)); exact BK258.out) hb); have n7_ := zK (blk_below (g := gb286) (o := .cells #[.int .i64 t282, .slice Ao113 t283.length co113] 26 (0, 0)) (by (with_reducible repeat (first | refine zM ?_ _ | refine zP ?_ | refine zQ ?_ _)); refine blk_put (cs := #[.int .i64 t282, .slice none 0 0]) ?_ 1 _ rfl; (with_reducible repeat (first | refine zM ?_ _ | refine zP ?_ | refine zQ ?_ _)); refine blk_put (cs := #[.int .i64 0, .slice none 0 0]) ?_ 0 _ rfl; (with_reducible repeat (first | refine zM ?_ _ | refine zP ?_ | refine zQ ?_ _)); exact BK286.out) hb); have n8_ := zK (below_step (by repeat (first | (with_reducible first | exact HB.out | apply zA | apply zN | apply zD | refine below_set ?_ GE247.out | refine below_set ?_ GE258.out | refine below_set ?_ GE286.out) | exact HB.out)) hb); clear HO_248001; clear HO_259001; clear HO278; clear HO281; clear HO285; clear BK247; clear BK258; clear BK286; clear HB; have HO_248001 := n0_; have HO_259001 := n1_; have HO278 := n2_; have HO281 := n3_; have HO285 := n4_; have BK247 := n5_; have BK258 := n6_; have BK286 := n7_; have HB := n8_; clear n0_ n1_ n2_ n3_ n4_ n5_ n6_ n7_ n8_; (try clear hb); (try clear hb2); (try clear hk); (try clear hi); have hcz116_0 : w115.cell? ⟨gb258, 0, none⟩ = some (.int .i64 t254) := (blk_cell BK258.out 0).trans rfl; have hcz116_1 : w115.cell? ⟨gb258, 1, none⟩ = some (.slice Ao45 t255.length co45) := (blk_cell BK258.out 1).trans rfl; have hfz116_0 := blk_frozen BK258.out 0; have hfz116_1 := blk_frozen BK258.out 1) | ((with_reducible refine gate_callee (f := 17) rfl ?_); refine goesL_ (some 86) rfl rfl Tryd.func17 (by kernel_rfl) rfl #[.agg #[.int .i64 t254, .slice Ao45 t274.length co45], .int .i64 1] rfl (by (try simp only [List.map_toArray, List.map_cons, List.map_nil]); first | done | (rw [show t274.length = t255.length from (Kd.R_reads' HO_259001.out).1.symm] <;> rfl) | rfl | (simp only [List.length_drop, List.length_take]; rfl)) ?_; (with_reducible refine (laws_heldFilesResult.calls kj25 t254 _ _ t274 1 t288 _ ?side1 ?side2 A77.out).mono ?_); (case side1 => repeat (first | exact (Kd.R_reads' HO_259001.out).2.2 | (with_reducible refine Kd.C_alloc ?_ _) | (with_reducible refine Kd.C_drewN ?_ _) | (with_reducible refine Kd.C_drew ?_))); (case side2 => rw [show t274.length = t255.length from (Kd.R_reads' HO_259001.out).1.symm]; exact (Kd.R_reads' HO_259001.out).2.1); rintro e w117 ⟨rfl, hb⟩; refine ⟨_, rfl, ?_⟩; have n0_ := zK (Kd.R_below (by (with_reducible repeat (first | apply zR | apply zV | apply zW)); exact HO_248001.out) hb); have n1_ := zK (Kd.R_below (by (with_reducible repeat (first | apply zR | apply zV | apply zW)); exact HO_259001.out) hb); have n2_ := zK (Kd.R_below (by (with_reducible repeat (first | apply zR | apply zV | apply zW)); exact HO278.out) hb); have n3_ := zK (Kd.R_below (by (with_reducible repeat (first | apply zR | apply zV | apply zW)); exact HO281.out) hb); have n4_ := zK (Kd.R_below (by (with_reducible repeat (first | apply zR | apply zV | apply zW)); exact HO285.out) hb); have n5_ := zK (blk_below (g := gb247) (o := .cells #[.int .i64 t243, .slice Ao36 t244.length co36] 26 (0, 0)) (by (with_reducible repeat (first | refine zM ?_ _ | refine zP ?_ | refine zQ ?_ _)); exact BK247.out) hb); have n6_ := zK (blk_below (g := gb258) (o := .cells #[.int .i64 t254, .slice Ao45 t255.length co45] 26 (0, 0)) (by (with_reducible repeat (first | refine zM ?_ _ | refine zP ?_ | refine zQ ?_ _)); exact BK258.out) hb); have n7_ := zK (blk_below (g := gb286) (o := .cells #[.int .i64 t282, .slice Ao113 t283.length co113] 26 (0, 0)) (by (with_reducible repeat (first | refine zM ?_ _ | refine zP ?_ | refine zQ ?_ _)); exact BK286.out) hb); have n8_ := zK (below_step (by repeat (first | (with_reducible first | exact HB.out | apply zA | apply zN | apply zD | refine below_set ?_ GE247.out | refine below_set ?_ GE258.out | refine below_set ?_ GE286.out) | exact HB.out)) hb); clear HO_248001; clear HO_259001; clear HO278; clear HO281; clear HO285; clear BK247; clear BK258; clear BK286; clear HB; have HO_248001 := n0_; have HO_259001 := n1_; have HO278 := n2_; have HO281 := n3_; have HO285 := n4_; have BK247 := n5_; have BK258 := n6_; have BK286 := n7_; have HB := n8_; clear n0_ n1_ n2_ n3_ n4_ n5_ n6_ n7_ n8_; (try clear hb); (try clear hb2); (try clear hk); (try clear hi)))
              go_ret
              exact ⟨by first | rfl | (simp [errW_none, errW_some] <;> rfl) | (simp [*, errW_none, errW_some] <;> rfl), by repeat (first | (with_reducible first | exact HB.out | apply zA | apply zN | apply zD | refine below_set ?_ GE247.out | refine below_set ?_ GE258.out | refine below_set ?_ GE286.out) | exact HB.out)⟩
             ·
              rw [if_neg c98] at H
              have c98b0 : (t288 == t273) = false := beq_eq_false_iff_ne.mpr c98
              have c98b1 : (t288 != t273) = true := bne_iff_ne.mpr c98
              exact absurd ((Option.some.inj H).trans hT_) (by decide)
           ·
            replace c76 := Bool.eq_false_iff.mpr c76
            subst c76
            have H1 : (some false) = some r := by rw [if_neg (show ¬ (false = true) by decide)] at H; exact H
            clear H
            have H := H1
            clear H1
            exact absurd ((Option.some.inj H).trans hT_) (by decide)
          ·
           rw [if_neg c71] at H
           have c71b0 : (t275 == t273) = false := beq_eq_false_iff_ne.mpr c71
           have c71b1 : (t275 != t273) = true := bne_iff_ne.mpr c71
           exact absurd ((Option.some.inj H).trans hT_) (by decide)
     ·
      replace c23 := Bool.eq_false_iff.mpr c23
      subst c23
      have H1 : (some false) = some r := by rw [if_neg (show ¬ (false = true) by decide)] at H; exact H
      clear H
      have H := H1
      clear H1
      exact absurd ((Option.some.inj H).trans hT_) (by decide)
    ·
     replace c20 := Bool.eq_false_iff.mpr c20
     subst c20
     have H1 : (some false) = some r := by rw [if_neg (show ¬ (false = true) by decide)] at H; exact H
     clear H
     have H := H1
     clear H1
     exact absurd ((Option.some.inj H).trans hT_) (by decide)
   ·
    replace c17 := Bool.eq_false_iff.mpr c17
    subst c17
    have H1 : (some false) = some r := by rw [if_neg (show ¬ (false = true) by decide)] at H; exact H
    clear H
    have H := H1
    clear H1
    exact absurd ((Option.some.inj H).trans hT_) (by decide)

end Go.Proofs.YtjibadlbiapcmaaDoor.PX

namespace Go.Proofs.YtjibadlbiapcmaaDoorX
open Go Go.RowKit Go.Proofs.YtjibadlbiapcmaaDoorW.PrintWords Go.Proofs.YtjibadlbiapcmaaDoor.PX
open Go.Proofs.YtjibadlbiapcmaaDoor.PX.X (lessB goI goS chkS DeltaT dMarks)
set_option linter.unusedVariables false
theorem fileStep_ok {l : List IFile} {i : Nat} {r : Int} (h : fileStep l i () = .inl r) : r ≠ 0 := by
  unfold fileStep at h
  split at h
  · split at h
    · split at h
      · split at h
        · rw [← Sum.inl.inj h]; decide
        · cases h
      · rw [← Sum.inl.inj h]; decide
    · rw [← Sum.inl.inj h]; decide
  · rw [← Sum.inl.inj h]; decide
theorem fileStep_in {l : List IFile} {i : Nat} (h : fileStep l i () = .inr ()) (h0 : 0 < i) : Op.bytesLess (fileAt l (i - 1)).f0.toList (fileAt l i).f0.toList = true := by
  unfold fileStep at h
  split at h
  · split at h
    · split at h
      · split at h
        · cases h
        · rename_i hn
          cases hb : Op.bytesLess (fileAt l (i - 1)).f0.toList (fileAt l i).f0.toList with
          | true => rfl
          | false => exact absurd ⟨h0, hb⟩ hn
      · cases h
    · cases h
  · cases h
theorem fileRun_ok (l : List IFile) (fin : Unit → Int) : ∀ (d i : Nat), run (fileStep l) fin d i () = 0 → ∀ j, i ≤ j → j < i + d → fileStep l j () = .inr ()
  | 0, i, _, j, h1, h2 => absurd h2 (by omega)
  | d + 1, i, h, j, h1, h2 => by
    cases hs : fileStep l i () with
    | inl r =>
      rw [run_out hs] at h
      exact absurd h (fileStep_ok hs)
    | inr u =>
      rw [run_on hs] at h
      rcases Nat.lt_or_ge i j with h3 | h3
      · exact fileRun_ok l fin d (i + 1) h j (by omega) (by omega)
      · have : j = i := by omega
        subst this
        exact hs
theorem filesV_ok {l : List IFile} (h : filesV l = 0) : l.length ≤ 60 ∧ rising fPath l := by
  unfold filesV at h
  by_cases hn : l.length > 60
  · rw [if_pos hn] at h
    exact absurd h (by decide)
  rw [if_neg hn] at h
  have hall := fileRun_ok l _ l.length 0 h
  have next : ∀ i, 0 < i → i < l.length → X.lessB (fileAt l (i - 1)).f0 (fileAt l i).f0 = true := fun i h0 hi => by
    have := fileStep_in (hall i (Nat.zero_le _) (by omega)) h0
    rw [toList_eq, toList_eq] at this
    exact this
  have key : ∀ (d i : Nat), i + d + 1 < l.length → X.lessB (fileAt l i).f0 (fileAt l (i + d + 1)).f0 = true := by
    intro d
    induction d with
    | zero => intro i hi; exact next (i + 1) (by omega) hi
    | succ d ih => intro i hi; exact X.lessB_trans (ih i (by omega)) (next (i + (d + 1) + 1) (by omega) hi)
  refine ⟨by omega, fun i j x y hij hx hy => ?_⟩
  have hj := (List.getElem?_eq_some_iff.1 hy).1
  have e1 : fileAt l i = x := by unfold fileAt; rw [List.getD_eq_getElem?_getD, hx]; rfl
  have e2 : fileAt l j = y := by unfold fileAt; rw [List.getD_eq_getElem?_getD, hy]; rfl
  have := key (j - i - 1) i (by omega)
  rw [show i + (j - i - 1) + 1 = j by omega, e1, e2] at this
  exact this
/-- What ApplyDeltas tells. -/
def appV (l : List IFile) (ds : List DeltaT) : Int × List IFile := if filesV l = 0 then (if chkS l none ds = 0 then (if filesV (goS ds l) = 0 then (0, goS ds l) else (filesV (goS ds l), [])) else (chkS l none ds, [])) else (filesV l, [])
def dSmall (ds : List DeltaT) : Prop := ∀ d ∈ ds, d.f2.f0.size ≤ 1048576
theorem goS_fits {l : List IFile} {ds : List DeltaT} (hf : filesV l = 0) (hc : chkS l none ds = 0) (hs : fSmall l) (hd : dSmall ds) : (goS ds l).length ≤ l.length + ds.length ∧ fSmall (goS ds l) := by
  have h := go_same l ds none l (filesV_ok hf).2
  rw [if_pos hc] at h
  refine ⟨goI_len l ds none l _ h, fun x hx => ?_⟩
  rcases goI_mem l ds none l _ h x hx with h1 | ⟨d, h1, h2⟩
  · exact hs x h1
  · rw [h2]
    exact hd d h1
theorem spec_app (l : List IFile) (ds : List DeltaT) (hb : l.length + ds.length ≤ 1048576) (hs : fSmall l) (hd : dSmall ds) (k : Nat) (hk : 2102000 < k) : spec_ApplyDeltas.f (2 * k) l ds = some (appV l ds) := by
  unfold spec_ApplyDeltas.f appV
  rw [if_pos hb, if_pos (by omega), spec_files l (by omega) hs k (by omega), Option.bind_some]
  by_cases hf : filesV l = 0
  · rw [if_pos hf, if_pos hf]
    by_cases hc : chkS l none ds = 0
    · obtain ⟨h1, h2⟩ := goS_fits hf hc hs hd
      rw [if_pos hc, if_pos hc, spec_files (goS ds l) (by omega) h2 k (by omega), Option.bind_some]
    · rw [if_neg hc, if_neg hc]
  · rw [if_neg hf, if_neg hf]
theorem impl_app (l : List IFile) (ds : List DeltaT) (hb : l.length + ds.length ≤ 1048576) (hs : fSmall l) (hd : dSmall ds) (k : Nat) (hk : 2102000 < k) : impl_ApplyDeltas.f k l ds = some (appV l ds) := by
  unfold impl_ApplyDeltas.f appV
  rw [if_pos hb, impl_files l (by omega) hs k (by omega), Option.bind_some]
  by_cases hf : filesV l = 0
  · rw [if_pos hf, if_pos hf, go_same l ds none l (filesV_ok hf).2]
    by_cases hc : chkS l none ds = 0
    · obtain ⟨h1, h2⟩ := goS_fits hf hc hs hd
      rw [if_pos hc, if_pos hc]
      show impl_rightFiles.f k (goS ds l) = _
      unfold impl_rightFiles.f
      rw [impl_files (goS ds l) (by omega) h2 k (by omega), Option.bind_some]
      by_cases hq : filesV (goS ds l) = 0
      · rw [if_pos hq, if_pos hq]
      · rw [if_neg hq, if_neg hq]
    · rw [if_neg hc, if_neg hc]
  · rw [if_neg hf, if_neg hf]
theorem appV_len {l : List IFile} {ds : List DeltaT} : (appV l ds).2.length ≤ 60 := by
  unfold appV
  split
  · split
    · split
      · rename_i h
        exact (filesV_ok h).1
      · exact Nat.zero_le _
    · exact Nat.zero_le _
  · exact Nat.zero_le _
/-! ### the law's own tools -/
abbrev LDelta := S105
def deltaOk (x : LDelta) : Prop := x.f0.size ≤ 140737488351232 ∧ fileOk x.f1 ∧ fileOk x.f2
def deltaConv (x : LDelta) : DeltaT := ⟨x.f0, fileConv x.f1, fileConv x.f2⟩
def deltaSmall (x : LDelta) : Prop := fileSmall x.f2
theorem szDelta_tells (x : LDelta) (hx : deltaOk x) (left : Int) (h0 : 0 ≤ left) (h1 : left ≤ 1048576) : ∃ r, laws_szDelta.f x.f0 x.f1.f0 x.f1.f1 x.f1.f2 x.f2.f0 x.f2.f1 x.f2.f2 left = some r ∧ r ≤ left ∧ (0 ≤ r → deltaSmall x) := by
  obtain ⟨a, b, c⟩ := hx
  unfold laws_szDelta.f
  rw [wrap_in (i := left - _) (by omega) (by omega)]
  by_cases h : left - (x.f0.size : Int) < 0
  · rw [if_pos h]
    exact ⟨_, rfl, by omega, fun z => absurd z (by omega)⟩
  · obtain ⟨r1, e1, l1, q1⟩ := szFile_tells x.f1 b (left - x.f0.size) (by omega) (by omega)
    rw [if_neg h, e1, Option.bind_some]
    by_cases h2 : r1 < 0
    · rw [if_pos h2]
      exact ⟨_, rfl, by omega, fun z => absurd z (by omega)⟩
    · obtain ⟨r2, e2, l2, q2⟩ := szFile_tells x.f2 c r1 (by omega) (by omega)
      rw [if_neg h2, e2, Option.bind_some]
      by_cases h3 : r2 < 0
      · rw [if_pos h3]
        exact ⟨_, rfl, by omega, fun z => absurd z (by omega)⟩
      · rw [if_neg h3]
        exact ⟨_, rfl, by omega, fun z => q2 z⟩
theorem szDeltaS_tells (l : List LDelta) (hl : l.length ≤ 140737488351232) (ho : ∀ x ∈ l, deltaOk x) (left : Int) (h0 : 0 ≤ left) (h1 : left ≤ 1048576) (k : Nat) (hk : l.length < k) :
    ∃ r, laws_szDeltaS.f k l left = some r ∧ (0 ≤ r → (l.length : Int) ≤ left ∧ ∀ x ∈ l, deltaSmall x) := by
  unfold laws_szDeltaS.f
  rw [wrap_in (by omega) (by omega)]
  split
  · exact ⟨_, rfl, fun z => absurd z (by omega)⟩
  · obtain ⟨r, hr, hle, hq⟩ := sz_all (F := laws_szDeltaS.l0) (Z := fun x left => laws_szDelta.f x.f0 x.f1.f0 x.f1.f1 x.f1.f2 x.f2.f0 x.f2.f1 x.f2.f2 left) deltaOk deltaSmall z105 szDelta_tells (fun k xs left i => by rw [laws_szDeltaS.l0]; rfl) l hl ho (left - l.length) (by omega) (by omega) k hk
    exact ⟨r, hr, fun z => ⟨by omega, hq z⟩⟩
theorem szFileS_tells3 (l : List LFile) (hl : l.length ≤ 140737488351232) (ho : ∀ x ∈ l, fileOk x) (left : Int) (h0 : 0 ≤ left) (h1 : left ≤ 1048576) (k : Nat) (hk : l.length < k) :
    ∃ r, laws_szFileS.f k l left = some r ∧ r ≤ left ∧ (0 ≤ r → r ≤ left - l.length ∧ ∀ x ∈ l, fileSmall x) := by
  unfold laws_szFileS.f
  rw [wrap_in (by omega) (by omega)]
  split
  · exact ⟨_, rfl, by omega, fun z => absurd z (by omega)⟩
  · obtain ⟨r, hr, hle, hq⟩ := sz_all (F := laws_szFileS.l0) (Z := fun x left => laws_szFile.f x.f0 x.f1 x.f2 left) fileOk fileSmall z102 szFile_tells (fun k xs left i => by rw [laws_szFileS.l0]; rfl) l hl ho (left - l.length) (by omega) (by omega) k hk
    exact ⟨r, hr, by omega, fun z => ⟨hle, hq z⟩⟩
theorem toDelta_tells (x : LDelta) : laws_toDelta.f x.f0 x.f1.f0 x.f1.f1 x.f1.f2 x.f2.f0 x.f2.f1 x.f2.f2 = some (x.f0, x.f1.f0, x.f1.f1, x.f1.f2, x.f2.f0, x.f2.f1, x.f2.f2) := rfl
theorem toDeltaS_tells (l : List LDelta) (hl : l.length ≤ 1048576) (k : Nat) (hk : l.length < k) : laws_toDeltaS.f k l = some (l.map deltaConv) := by
  unfold laws_toDeltaS.f
  rw [if_pos (by omega), Int.toNat_natCast, if_pos (by omega)]
  exact to_all (F := laws_toDeltaS.l0) deltaConv z105 (fun k xs ys i => by rw [laws_toDeltaS.l0]; rfl) l (by omega) _ k hk
theorem eqDelta_tells (x y : DeltaT) : ∃ t, laws_eqDelta.f x.f0 x.f1.f0 x.f1.f1 x.f1.f2 x.f2.f0 x.f2.f1 x.f2.f2 y.f0 y.f1.f0 y.f1.f1 y.f1.f2 y.f2.f0 y.f2.f1 y.f2.f2 = some t ∧ (t = true ↔ x = y) := by
  obtain ⟨p, o, n⟩ := x
  obtain ⟨p', o', n'⟩ := y
  unfold laws_eqDelta.f
  obtain ⟨t1, e1, i1⟩ := eqFile_tells o o'
  obtain ⟨t2, e2, i2⟩ := eqFile_tells n n'
  simp only [toList_iff, e1, e2, Option.bind_some]
  by_cases h1 : p = p'
  · rw [if_pos h1]
    cases t1 with
    | true =>
      cases t2 with
      | true => exact ⟨_, rfl, by simp [h1, i1.1 rfl, i2.1 rfl]⟩
      | false => exact ⟨_, rfl, by simp [show ¬ n = n' from fun z => absurd (i2.2 z) (by decide)]⟩
    | false => exact ⟨_, rfl, by simp [show ¬ o = o' from fun z => absurd (i1.2 z) (by decide)]⟩
  · rw [if_neg h1]; exact ⟨_, rfl, by simp [h1]⟩
theorem eqDeltaS_same (l : List DeltaT) (hl : l.length ≤ 1048576) (k : Nat) (hk : l.length < k) : laws_eqDeltaS.f k l l = some true := by
  unfold laws_eqDeltaS.f
  rw [if_pos rfl]
  exact eq_all (F := laws_eqDeltaS.l0) (E := fun x y => laws_eqDelta.f x.f0 x.f1.f0 x.f1.f1 x.f1.f2 x.f2.f0 x.f2.f1 x.f2.f2 y.f0 y.f1.f0 y.f1.f1 y.f1.f2 y.f2.f0 y.f2.f1 y.f2.f2) z108 eqDelta_tells (fun k xs ys i => by rw [laws_eqDeltaS.l0]; rfl) l (by omega) k hk
theorem markDelta_tells2 (l : List DeltaT) (n : Nat) (hn : n + 7 * l.length ≤ 9223372036854775800) : laws_markDeltaS.f l (n : Int) = some (((n + 7 * l.length : Nat) : Int), dMarks n l.length) := by
  unfold laws_markDeltaS.f
  rw [if_pos (by omega), Int.toNat_natCast, if_pos hn]
theorem eqFilesResult_same (c : Int) (l : List IFile) (hl : l.length ≤ 1048576) (k : Nat) (hk : l.length < k) : laws_eqFilesResult.f k c l c l = some true := by
  unfold laws_eqFilesResult.f
  rw [if_pos rfl, eqFileS_same l hl k hk, Option.bind_some, if_pos rfl]
theorem applyDeltas_pure (a : List LFile) (b : List LDelta) (ha1 : a.length * 40 ≤ 140737488351232) (ha2 : ∀ x ∈ a, x.f0.size ≤ 140737488351232 ∧ (Go.Lit.int .i64 x.f1).wf = true ∧ x.f2.size ≤ 140737488351232) (hb1 : b.length * 96 ≤ 140737488351232)
    (hb2 : ∀ x ∈ b, x.f0.size ≤ 140737488351232 ∧ (x.f1.f0.size ≤ 140737488351232 ∧ (Go.Lit.int .i64 x.f1.f1).wf = true ∧ x.f1.f2.size ≤ 140737488351232) ∧ (x.f2.f0.size ≤ 140737488351232 ∧ (Go.Lit.int .i64 x.f2.f1).wf = true ∧ x.f2.f2.size ≤ 140737488351232)) : ∃ k, laws_FnExactApplyDeltas.f k a b = some true := by
  obtain ⟨m, hm0⟩ : ∃ m, m = a.length + b.length + 2102100 := ⟨_, rfl⟩
  obtain ⟨K, hK⟩ : ∃ K, 2 * m = K + 1 := ⟨2 * m - 1, by omega⟩
  refine ⟨2 * m, ?_⟩
  unfold laws_FnExactApplyDeltas.f
  obtain ⟨r, hr, hle, hq⟩ := szFileS_tells3 a (by omega) (fun x hx => ⟨(ha2 x hx).1, (ha2 x hx).2.2⟩) 1048576 (by decide) (by decide) (2 * m) (by omega)
  rw [hr, Option.bind_some]
  by_cases c : r < 0
  · rw [if_pos c]
  obtain ⟨hna, hsa⟩ := hq (by omega)
  obtain ⟨r2, hr2, hq2⟩ := szDeltaS_tells b (by omega) (fun x hx => ⟨(hb2 x hx).1, ⟨(hb2 x hx).2.1.1, (hb2 x hx).2.1.2.2⟩, ⟨(hb2 x hx).2.2.1, (hb2 x hx).2.2.2.2⟩⟩) r (by omega) (by omega) (2 * m) (by omega)
  rw [if_neg c, hr2, Option.bind_some]
  by_cases c2 : r2 < 0
  · rw [if_pos c2]
  obtain ⟨hnb, hsb⟩ := hq2 (by omega)
  have hma : (a.map fileConv).length = a.length := List.length_map _
  have hmb : (b.map deltaConv).length = b.length := List.length_map _
  have hdb : dSmall (b.map deltaConv) := by
    intro d hd
    obtain ⟨y, hy, rfl⟩ := List.mem_map.1 hd
    exact (hsb y hy).1
  have hsum : (a.map fileConv).length + (b.map deltaConv).length ≤ 1048576 := by omega
  have hv : (appV (a.map fileConv) (b.map deltaConv)).2.length ≤ 60 := appV_len
  have e1 := toFileS_tells a (by omega) (2 * m) (by omega)
  have e1b := toDeltaS_tells b (by omega) (2 * m) (by omega)
  have e2 := spec_app (a.map fileConv) (b.map deltaConv) hsum (fconv_small hsa) hdb m (by omega)
  have e3 := impl_app (a.map fileConv) (b.map deltaConv) hsum (fconv_small hsa) hdb (2 * m) (by omega)
  have e1' := toFileS_tells a (by omega) K (by omega)
  have e1b' := toDeltaS_tells b (by omega) K (by omega)
  have e3' := impl_app (a.map fileConv) (b.map deltaConv) hsum (fconv_small hsa) hdb K (by omega)
  have e4 := eqFileS_same (a.map fileConv) (by omega) (2 * m) (by omega)
  have e4b := eqDeltaS_same (b.map deltaConv) (by omega) (2 * m) (by omega)
  have e5 := markFileS_tells (a.map fileConv) 1 (by omega) (2 * m) (by omega)
  have e5b := markDelta_tells2 (b.map deltaConv) (1 + 3 * (a.map fileConv).length) (by omega)
  generalize appV (a.map fileConv) (b.map deltaConv) = v at hv e2 e3 e3'
  obtain ⟨vc, vl⟩ := v
  simp only at hv
  have e6 := eqFilesResult_same vc vl (by omega) (2 * m) (by omega)
  have e6' := eqFilesResult_same vc vl (by omega) K (by omega)
  have m1 := markFileS_tells vl 1 (by omega) K (by omega)
  have m2 := heldFileS_tells vl.length 1 (by omega) K (by omega)
  rw [if_neg c2]
  simp only [e1, e1b, e2, e3, e4, e4b, e6, Option.bind_some, if_true]
  rw [show laws_markFileS.f (2 * m) (a.map fileConv) 1 = _ from e5, Option.bind_some]
  rw [show laws_markDeltaS.f (b.map deltaConv) _ = _ from e5b, Option.bind_some, if_neg (by omega)]
  rw [hK, laws_FnExactApplyDeltas.j0, if_neg (by decide)]
  unfold laws_markFilesResult.f laws_heldFilesResult.f
  rw [show laws_markFileS.f K vl 1 = _ from m1]
  simp only [Option.bind_some]
  rw [show laws_heldFileS.f K (fileMarks 1 vl.length) 1 = _ from m2]
  simp only [Option.bind_some]
  rw [if_neg (by omega)]
  simp only [Option.bind_some]
  rw [if_neg (by omega)]
  simp only [e1', e1b', e3', e6', Option.bind_some, if_true]
  rw [if_neg (by omega)]
end Go.Proofs.YtjibadlbiapcmaaDoorX
