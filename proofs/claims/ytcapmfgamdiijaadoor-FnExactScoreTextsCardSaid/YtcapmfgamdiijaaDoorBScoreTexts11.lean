/- Texts of this claim set one behind another by wip/bundle.py: XTableL, XTable, PXf136, PXf71, PXf15, XCommons, PXf139. -/
import Derived.Test.YtcapmfgamdiijaaDoorBScoreTexts10
import Derived.Test.YtcapmfgamdiijaaDoorBScoreTexts1
import Derived.Test.YtcapmfgamdiijaaDoorBScoreTexts5
import Derived.Test.YtcapmfgamdiijaaDoorBScoreTexts2
import Derived.Deep.RegionHeld3
import Derived.StillTailTactics
import Derived.Test.YtcapmfgamdiijaaDoorBScoreTexts9
import Derived.Test.YtcapmfgamdiijaaDoorBScoreTexts7
namespace Go.Proofs.YtcapmfgamdiijaaDoor.PX.X
open Go Go.RowKit Go.Lib Go.Proofs.YtcapmfgamdiijaaDoorW.PrintWords Go.Proofs.YtcapmfgamdiijaaDoorW.PrintLast Go.Proofs.YtcapmfgamdiijaaDoor.PX
set_option linter.unusedVariables false
set_option linter.unusedSimpArgs false
theorem wrapI {i : Int} (h0 : -9223372036854775808 ≤ i) (h1 : i < 9223372036854775808) : IntKind.i64.wrap i = i := (i64_w i).trans (YtcapmfgamdiijaaDoorX.wrap_in h0 h1)
theorem zeros_get (m j : Nat) (h : j < m) : (madeCells #[Value.int .i64 0] m)[j]? = some (.int .i64 0) := by
  simp [madeCells, h, Nat.mod_one]
theorem l1Max_f (a b : Int) : spec_l1Max.f a b = some (max a b) := by
  unfold spec_l1Max.f
  by_cases h : a > b
  · rw [if_pos h, Int.max_eq_left (by omega)]
  · rw [if_neg h, Int.max_eq_right (by omega)]
theorem keepT {a b c d : Addr} {va vb vc vd : Option Value} {W w' : World} {n : Nat} (h : w'.cell? a = va ∧ w'.cell? b = vb ∧ w'.cell? c = vc ∧ w'.cell? d = vd ∧ Below W.heap.size W w') : (w'.drewN n).cell? a = va ∧ (w'.drewN n).cell? b = vb ∧ (w'.drewN n).cell? c = vc ∧ (w'.drewN n).cell? d = vd ∧ Below W.heap.size W (w'.drewN n) :=
  ⟨h.1, h.2.1, h.2.2.1, h.2.2.2.1, pw_below_drewN h.2.2.2.2 n⟩
theorem keepU {a b : Addr} {va vb : Option Value} {W w' : World} {n : Nat} (h : w'.cell? a = va ∧ w'.cell? b = vb ∧ Below W.heap.size W w') : (w'.drewN n).cell? a = va ∧ (w'.drewN n).cell? b = vb ∧ Below W.heap.size W (w'.drewN n) :=
  ⟨h.1, h.2.1, pw_below_drewN h.2.2 n⟩
/-- What is done: rows from ii on; of the row ahead the columns from jj on; the last column. -/
def done (l0 l1 : List ByteArray) (ii jj : Nat) (T : Nat → Nat → Int) : Prop := ∀ i j, i ≤ l0.length → j ≤ l1.length → (ii ≤ i ∨ j = l1.length ∨ (i + 1 = ii ∧ jj ≤ j)) → T i j = lv l0 l1 i j
theorem done_start (l0 l1 : List ByteArray) : done l0 l1 l0.length l1.length fun _ _ => 0 := by
  intro i j hi hj h
  rw [lv_end]
  omega
theorem done_row {l0 l1 : List ByteArray} {ii : Nat} {T : Nat → Nat → Int} (h : done l0 l1 ii 0 T) (h0 : 0 < ii) : done l0 l1 (ii - 1) l1.length T := by
  intro i j hi hj hc
  exact h i j hi hj (by omega)
theorem done_put {l0 l1 : List ByteArray} {i j : Nat} {T : Nat → Nat → Int} (h : done l0 l1 (i + 1) (j + 1) T) (x : Int) (hx : x = lv l0 l1 i j) : done l0 l1 (i + 1) j (upd T i j x) := by
  intro a b ha hb hc
  unfold upd
  by_cases e : a = i ∧ b = j
  · rw [if_pos e, e.1, e.2, hx]
  · rw [if_neg e]
    exact h a b ha hb (by omega)
theorem done_junk {l0 l1 : List ByteArray} {i j : Nat} {T : Nat → Nat → Int} (h : done l0 l1 (i + 1) (j + 1) T) (hj : j < l1.length) (x : Int) : done l0 l1 (i + 1) (j + 1) (upd T i j x) := by
  intro a b ha hb hc
  unfold upd
  rw [if_neg (by omega)]
  exact h a b ha hb hc
theorem upd_row (T : Nat → Nat → Int) (i j a b : Nat) (x : Int) (h : a ≠ i) : upd T i j x a b = T a b := by
  unfold upd
  rw [if_neg (fun z => h z.1)]
theorem made_top (W : World) (B nn m : Nat) (hB : B ≤ W.heap.size) (hn : nn ≤ 1048577) : Tab (W.alloc (.cells (madeCells #[Value.slice none 0 0] nn) 153)) B (.slice (some ⟨W.heap.size, 0, none⟩) nn nn) nn 0 m (fun _ => 0) (fun _ _ => 0) := by
  have h := own_made_of (enc := fun v : Value => v) (d := Value.slice none 0 0) W B 153 nn hB (by omega)
  have e : encs (fun v : Value => v) (List.replicate nn (Value.slice none 0 0)) = rowsC (fun _ => 0) 0 m ++ List.replicate (nn - 0) (.slice none 0 0) := by
    unfold encs rowsC
    rw [List.map_id']
    rfl
  rw [e] at h
  exact ⟨h, Nat.zero_le _, fun i hi => absurd hi (Nat.not_lt_zero _), fun i i' hi => absurd hi (Nat.not_lt_zero _)⟩
theorem Tab.topNil {w : World} {B nn kk m g cap : Nat} {f : Nat → Nat} {T : Nat → Nat → Int} (h : Tab w B (.slice (some ⟨g, 0, none⟩) nn cap) nn kk m f T) {i : Nat} (hi : kk ≤ i) (hn2 : i < nn) : w.cell? ⟨g, i, none⟩ = some (.slice none 0 0) ∧ w.frozen? ⟨g, i, none⟩ = false := by
  rcases h.own.2 with ⟨e, _⟩ | ⟨g', cap', cur, e, hb, hg, hn, hm, hs, ht⟩
  · cases e
  · injection e with e1 _ _
    injection e1 with e1
    injection e1 with e1
    subst e1
    refine ⟨?_, blk_frozen hg i⟩
    have e2 : (cur.toList.take (nn * 1))[i]? = some (Value.slice none 0 0) := by
      rw [ht, List.getElem?_append_right (by rw [rowsC_len]; exact hi), rowsC_len, List.getElem?_replicate, if_pos (by omega)]
    rw [List.getElem?_take, if_pos (by omega), Array.getElem?_toList] at e2
    exact (blk_cell hg i).trans e2
end Go.Proofs.YtcapmfgamdiijaaDoor.PX.X

namespace Go.Proofs.YtcapmfgamdiijaaDoor.PX.X
open Go Go.RowKit Go.Lib Go.Proofs.YtcapmfgamdiijaaDoorW.PrintWords Go.Proofs.YtcapmfgamdiijaaDoorW.PrintLast Go.Proofs.YtcapmfgamdiijaaDoor.PX
set_option linter.unusedVariables false
set_option linter.unusedSimpArgs false
set_option maxHeartbeats 1000000 in
set_option maxRecDepth 8000 in
theorem table_calls (A0 : Option Addr) (c0 : Nat) (l0 : List ByteArray) (A1 : Option Addr) (c1 : Nat) (l1 : List ByteArray) (w : World) (hr0 : Kd.C Kd.string w A0 l0.length l0) (hr1 : Kd.C Kd.string w A1 l1.length l1) (hb0 : l0.length ≤ 1048576) (hb1 : l1.length ≤ 1048576) :
    Calls Tryd.prog 136 #[.slice A0 l0.length c0, .slice A1 l1.length c1] w fun e w' => ∃ v, e = .returned v ∧ Kd.S (Kd.slice 2 (Kd.int .i64)) 153 w' w.heap.size (fun _ => True) v (tabOf (l0.length + 1) (l1.length + 1) (lv l0 l1)) ∧ Below w.heap.size w w' := by
  have HR0 := Lib.hid hr0
  have HR1 := Lib.hid hr1
  clear hr0 hr1
  obtain ⟨m, hm⟩ : ∃ m, m = l1.length + 1 := ⟨_, rfl⟩
  have hwm : IntKind.i64.wrap ((l1.length : Int) + 1) = (m : Int) := (wrapI (by omega) (by omega)).trans (by omega)
  have hmk : ∀ W : World, (Instr.makeSlice 153 (.int .i64 (m : Int)) (.int .i64 (m : Int))).run Tryd.prog W = .ok (.slice (some ⟨W.heap.size, 0, none⟩) m m) (W.alloc (.cells (madeCells #[Value.int .i64 0] m) 2)) := print_make_of 153 2 (.int .i64 0) 8 Tryd.underlying153 info2 rfl (by decide) m (by omega)
  have HMK := Lib.hid hmk
  have HWM := Lib.hid hwm
  have HM := Lib.hid hm
  clear hmk hwm hm
  go_enter Tryd.func136, Tryd.ntmps136
  go_wp2_with (first | ((with_reducible refine gate_dst (N := 10) rfl ?_); refine Kd.R_lit (Kd.int .i64) _ 153 ?hg (N := 10) ?hd (xs := ([] : List Int)) (inner := []) (ok := fun _ => True) (okp := fun _ => True) ?hr ?hp (fun _ hk => hk) trivial (Below.refl _ _) (Nat.le_refl _) (by simp) ?_; (case hd => rfl); (case hg => rfl); (case hr => first | (go_simp; done) | (go_simp; rfl)); (case hp => exact (Reps.none _ _)); intro v3 w2 ho3 hb2 hg_ hnew_; clear hg_ hnew_; have HO := Lib.hid ho3; have HB2 := Lib.hid hb2; clear ho3 hb2))
  have hT0 : Tab w2 w.heap.size v3 0 0 m (fun _ => 0) (fun _ _ => 0) := by
    obtain ⟨inner, ho⟩ := Kd.R_own HO.out
    have e : inner = [] := List.eq_nil_of_length_eq_zero (by have := ho.1; simpa using this)
    subst e
    exact ⟨ho, Nat.le_refl _, fun i hi => absurd hi (Nat.not_lt_zero _), fun i i' hi => absurd hi (Nat.not_lt_zero _)⟩
  have HT0 := Lib.hid hT0
  clear hT0 HO
  go_loopg [5, 6] (l0.length + 1) (fun gg s5 s6 wr => ∃ (kk : Nat) (f : Nat → Nat), kk ≤ l0.length + 1 ∧ l0.length + 1 - kk ≤ gg ∧ s6 = .int .i64 kk ∧ Aside (Tab wr w.heap.size s5 kk kk m f (fun _ _ => 0)) ∧ Aside (Below w.heap.size w wr))
  case atStart => exact ⟨0, _, Nat.zero_le _, by omega, rfl, HT0.out, HB2.out⟩
  case round =>
    obtain ⟨kk, f, hkk, hg, rfl, AT, AB⟩ := hrel
    clear HT0 HB2
    have hkz : (0 : Int) ≤ (kk : Int) := by omega
    by_cases hlt : kk < l0.length + 1
    · have hltz : (kk : Int) ≤ (l0.length : Int) := by omega
      have hltb : decide ((kk : Int) ≤ (l0.length : Int)) = true := decide_eq_true hltz
      have hmk := HMK.out
      have hwm := HWM.out
      go_wp2_with (first | ((with_reducible refine gate_builtin (b := .append) (xs := #[.tmp 17, .tmp 22]) rfl ?_); at_builtin; refine print_append_cells (w0 := w) w.heap.size rfl (.tmp 17) (.tmp 22) 154 153 (.slice none 0 0) 1 24 rfl Tryd.underlying154 info153 rfl (by decide) (by decide) _ kk (rowsC f kk m) [rowV m wr.heap.size] rfl (by first | (go_simp; done) | (go_simp; rfl)) rfl ?aU ?aO ?aB ?aS ?aL ?_; (case aU => exact (fun u hu => by rw [List.mem_singleton.1 hu]; rfl)); (case aO => exact (AT.out.below (below_alloc (Below.refl _ _) _)).ownF); (case aB => exact below_alloc AB.out _); (case aS => exact Nat.le_trans AB.out.size (below_alloc (Below.refl wr.heap.size wr) _).size); (case aL => omega); intro v5 w5 hown5 hb5 hg5 hat5; have O5 := Lib.hid hown5; have B5 := Lib.hid hb5; have G5 := Lib.hid hg5; clear hown5 hb5 hg5 hat5))
      have hT5 : Tab w5 w.heap.size v5 (kk + 1) (kk + 1) m (fun i => if i = kk then wr.heap.size else f i) (fun _ _ => 0) :=
        (AT.out.below (below_alloc (Below.refl _ _) (.cells (madeCells #[Value.int .i64 0] m) 2))).grow O5.out G5.out (blk_new wr _) AB.out.size (by simp [size_madeCells]) (fun j hj => zeros_get m j hj) (fun i hi => Nat.ne_of_lt (AT.out.lt hi))
      have HT5 := Lib.hid hT5
      clear hT5 O5 G5 hmk hwm
      go_roundg (l0.length + 1 - (kk + 1))
      case measure => omega
      case rel => exact ⟨kk + 1, _, by omega, Nat.le_refl _, by go_num, HT5.out, B5.out⟩
    · have hke : kk = l0.length + 1 := by omega
      have hltb : decide ((kk : Int) ≤ (l0.length : Int)) = false := decide_eq_false (by omega)
      have hltn : ¬ kk ≤ l0.length := by omega
      obtain ⟨nn, hnn⟩ : ∃ nn, nn = l0.length + 1 := ⟨_, rfl⟩
      have at1 := AT.out
      have hkn : kk = nn := by omega
      rw [hkn] at at1
      obtain ⟨g, cap, rfl, hBg, hcap⟩ := at1.form (by omega)
      have AT1 := Lib.hid at1
      have HNN := Lib.hid hnn
      have hwn : IntKind.i64.wrap ((l0.length : Int) - 1) = (l0.length : Int) - 1 := wrapI (by omega) (by omega)
      clear AT at1 hnn hke hkn
      go_wp2
      go_loopg [7] (l0.length + 1) (fun gg s7 w2 => ∃ (ii : Nat) (T : Nat → Nat → Int), ii ≤ l0.length ∧ ii ≤ gg ∧ s7 = .int .i64 ((ii : Int) - 1) ∧ Aside (Tab w2 w.heap.size (.slice (some ⟨g, 0, none⟩) nn cap) nn nn m f T) ∧ Aside (Below w.heap.size w w2) ∧ Aside (done l0 l1 ii l1.length T))
      case atStart => exact ⟨l0.length, _, Nat.le_refl _, by omega, by go_num, AT1.out, AB.out, done_start l0 l1⟩
      case round =>
        obtain ⟨ii, T, hii, hg2, e7, AT2, AB2, AD⟩ := hrel
        clear AT1 AB
        by_cases hpos : 0 < ii
        · obtain ⟨i, rfl⟩ : ∃ i, ii = i + 1 := ⟨ii - 1, by omega⟩
          rw [show (((i + 1 : Nat) : Int) - 1) = (i : Int) by omega] at e7
          subst e7
          have hgz : (i : Int) ≥ 0 := by omega
          have hwm1 : IntKind.i64.wrap ((l1.length : Int) - 1) = (l1.length : Int) - 1 := wrapI (by omega) (by omega)
          go_wp2
          go_loopg [8] (l1.length + 1) (fun gg s8 w3 => ∃ (jj : Nat) (T : Nat → Nat → Int), jj ≤ l1.length ∧ jj ≤ gg ∧ s8 = .int .i64 ((jj : Int) - 1) ∧ Aside (Tab w3 w.heap.size (.slice (some ⟨g, 0, none⟩) nn cap) nn nn m f T) ∧ Aside (Below w.heap.size w w3) ∧ Aside (done l0 l1 (i + 1) jj T))
          case atStart => exact ⟨l1.length, T, Nat.le_refl _, by omega, by go_num, AT2.out, AB2.out, fun i j hi hj hc => AD.out i j hi hj (by omega)⟩
          case round =>
            obtain ⟨jj, T3, hjj, hg3, e8, AT3, AB3, AD3⟩ := hrel
            clear AT2 AB2 AD
            by_cases hposj : 0 < jj
            · obtain ⟨j, rfl⟩ : ∃ j, jj = j + 1 := ⟨jj - 1, by omega⟩
              rw [show (((j + 1 : Nat) : Int) - 1) = (j : Int) by omega] at e8
              subst e8
              have hhz : (j : Int) ≥ 0 := by omega
              obtain ⟨i1, hi1⟩ : ∃ i1, i1 = i + 1 := ⟨_, rfl⟩
              obtain ⟨j1, hj1⟩ : ∃ j1, j1 = j + 1 := ⟨_, rfl⟩
              have hwi1 : IntKind.i64.wrap ((i : Int) + 1) = (i1 : Int) := (wrapI (by omega) (by omega)).trans (by omega)
              have hwj1 : IntKind.i64.wrap ((j : Int) + 1) = (j1 : Int) := (wrapI (by omega) (by omega)).trans (by omega)
              have hN := HNN.out
              have hM := HM.out
              have hiz : (0 : Int) ≤ (i : Int) := by omega
              have hjz : (0 : Int) ≤ (j : Int) := by omega
              have hi1z : (0 : Int) ≤ (i1 : Int) := by omega
              have hj1z : (0 : Int) ≤ (j1 : Int) := by omega
              have hin : (i : Int) < (nn : Int) := by omega
              have hi1n : (i1 : Int) < (nn : Int) := by omega
              have hjm : (j : Int) < (m : Int) := by omega
              have hj1m : (j1 : Int) < (m : Int) := by omega
              have hinn : i < nn := by omega
              have hi1nn : i1 < nn := by omega
              have hjmm : j < m := by omega
              have hj1mm : j1 < m := by omega
              have t1 := (AT3.out.top hi1nn).1
              have t0 := (AT3.out.top hinn).1
              have p1 := (AT3.out.cell hi1nn hjmm).1
              have p2 := (AT3.out.cell hinn hj1mm).1
              have p3 := (AT3.out.cell hi1nn hj1mm).1
              have p4 := AT3.out.cell hinn hjmm
              have v1 : T3 i1 j = lv l0 l1 i1 j := AD3.out i1 j (by omega) (by omega) (.inl (by omega))
              have v2 : T3 i j1 = lv l0 l1 i j1 := AD3.out i j1 (by omega) (by omega) (.inr (.inr ⟨rfl, by omega⟩))
              have v3' : T3 i1 j1 = lv l0 l1 i1 j1 := AD3.out i1 j1 (by omega) (by omega) (.inl (by omega))
              have hlv3 := lv_nonneg l0 l1 i1 j1
              have hlv4 := lv_le l0 l1 i1 j1
              unfold rowV at t0 t1
              rw [v1] at p1
              rw [v2] at p2
              rw [v3'] at p3
              have hin0 : i < l0.length := by omega
              have hjn1 : j < l1.length := by omega
              obtain ⟨a0, rfl, c0'⟩ := Kd.at_string HR0.out (i : Int) hiz (by omega)
              obtain ⟨a1, rfl, c1'⟩ := Kd.at_string HR1.out (j : Int) hjz (by omega)
              have hx0 : rdOf ByteArray.empty l0 (i : Int) = l0[i] := by
                show l0.getD ((i : Int)).toNat _ = _
                rw [Int.toNat_natCast, List.getD_eq_getElem?_getD, List.getElem?_eq_getElem hin0, Option.getD_some]
              have hx1 : rdOf ByteArray.empty l1 (j : Int) = l1[j] := by
                show l1.getD ((j : Int)).toNat _ = _
                rw [Int.toNat_natCast, List.getD_eq_getElem?_getD, List.getElem?_eq_getElem hjn1, Option.getD_some]
              rw [hx0, Int.toNat_natCast] at c0'
              rw [hx1, Int.toNat_natCast] at c1'
              replace c0' := (AB3.out.cell (World.block_lt_of_cell? w _ c0')).trans c0'
              replace c1' := (AB3.out.cell (World.block_lt_of_cell? w _ c1')).trans c1'
              have hsame := lv_same l0 l1 i j hin0 hjn1
              have hother := lv_other l0 l1 i j hin0 hjn1
              rw [← hi1, ← hj1] at hsame hother
              have HSAME := Lib.hid hsame
              have HOTHER := Lib.hid hother
              have HI1 := Lib.hid hi1
              have HJ1 := Lib.hid hj1
              have hi0l : (i : Int) < (l0.length : Int) := by omega
              have hj0l : (j : Int) < (l1.length : Int) := by omega
              have hwsum : IntKind.i64.wrap (1 + lv l0 l1 i1 j1) = 1 + lv l0 l1 i1 j1 := wrapI (by omega) (by omega)
              clear hsame hother hx0 hx1 v1 v2 v3' hN hM hi1 hj1 hlv3 hlv4
              generalize lv l0 l1 i1 j = p at p1 HSAME HOTHER
              generalize lv l0 l1 i j1 = q at p2 HSAME HOTHER
              generalize lv l0 l1 i1 j1 = d at p3 HSAME HOTHER hwsum
              generalize l0[i] = x at c0' HSAME HOTHER
              generalize l1[j] = y at c1' HSAME HOTHER
              have hS0 : wr.drew.cell? ⟨g, i1, none⟩ = some (.slice (some ⟨f i1, 0, none⟩) m m) ∧ wr.drew.cell? ⟨g, i, none⟩ = some (.slice (some ⟨f i, 0, none⟩) m m) ∧ wr.drew.cell? ⟨f i1, j, none⟩ = some (.int .i64 p) ∧ wr.drew.cell? ⟨f i, j1, none⟩ = some (.int .i64 q) ∧ Below wr.heap.size wr wr.drew := ⟨t1, t0, p1, p2, below_drew1 (Below.refl _ _)⟩
              go_wp2
              have hSw : wr.cell? ⟨g, i1, none⟩ = some (.slice (some ⟨f i1, 0, none⟩) m m) ∧ wr.cell? ⟨g, i, none⟩ = some (.slice (some ⟨f i, 0, none⟩) m m) ∧ wr.cell? ⟨f i1, j, none⟩ = some (.int .i64 p) ∧ wr.cell? ⟨f i, j1, none⟩ = some (.int .i64 q) ∧ Below wr.heap.size wr wr := ⟨t1, t0, p1, p2, Below.refl _ _⟩
              have HSW := Lib.hid hSw
              clear hSw
              go_region_held3 (fun w' => w'.cell? ⟨g, i1, none⟩ = some (.slice (some ⟨f i1, 0, none⟩) m m) ∧ w'.cell? ⟨g, i, none⟩ = some (.slice (some ⟨f i, 0, none⟩) m m) ∧ w'.cell? ⟨f i1, j, none⟩ = some (.int .i64 p) ∧ w'.cell? ⟨f i, j1, none⟩ = some (.int .i64 q) ∧ Below wr.heap.size wr w') ((first | assumption | exact keepT HSW.out))
                ((go_at_call 164; (with_reducible refine (spec_l1Max.calls p q _ _ (l1Max_f p q)).mono ?_); rintro e w' ⟨rfl, ⟨nd, rfl⟩⟩))
              clear hS0
              have hW4 : ∀ n, Below wr.heap.size wr (wr.drewN n) := fun n => pw_below_drewN (Below.refl _ _) n
              rename_i hHeld
              clear hHeld
              generalize hWe : World.drewN wr _ = W4
              have hb4 : Below wr.heap.size wr W4 := by rw [← hWe]; exact hW4 _
              clear hWe hW4 HSW
              have c04 : W4.cell? (a0.add i) = some (.string x) := (hb4.cell (World.block_lt_of_cell? wr _ c0')).trans c0'
              have c14 : W4.cell? (a1.add j) = some (.string y) := (hb4.cell (World.block_lt_of_cell? wr _ c1')).trans c1'
              have hK0 : W4.drew.cell? (a0.add i) = some (.string x) ∧ W4.drew.cell? (a1.add j) = some (.string y) ∧ Below W4.heap.size W4 W4.drew := ⟨c04, c14, below_drew1 (Below.refl _ _)⟩
              by_cases hxy : x = y
              · subst hxy
                have he : (x.toList == x.toList) = true := beq_self_eq_true _
                go_wp2
                go_region_held3 (fun w' => w'.cell? (a0.add i) = some (.string x) ∧ w'.cell? (a1.add j) = some (.string x) ∧ Below W4.heap.size W4 w') (with_reducible first | assumption) ((fail))
                rename_i hHeld5
                clear hHeld5 hK0
                generalize hWe5 : World.drew W4 = W5
                have hb5 : Below wr.heap.size wr W5 := hb4.trans (by rw [← hWe5]; exact (below_drew1 (Below.refl _ _)).mono hb4.size)
                clear hWe5 c04 c14
                have AT5 := Lib.hid (AT3.out.below hb5)
                have AB5 := Lib.hid (AB3.out.trans (hb5.mono AB3.out.size))
                have t15 := (hb5.cell (World.block_lt_of_cell? wr _ t1)).trans t1
                have t05 := (hb5.cell (World.block_lt_of_cell? wr _ t0)).trans t0
                have p35 := (hb5.cell (World.block_lt_of_cell? wr _ p3)).trans p3
                have p45 := AT5.out.cell hinn hjmm
                have p4c := p45.1
                have p4f := p45.2
                clear p45 hb5 hb4 t1 t0 p1 p2 p3 p4
                have hval : max (max p q) (1 + d) = lv l0 l1 i j := (HSAME.out (by trivial)).2
                have HVAL := Lib.hid hval
                clear hval
                go_wp2_with (go_at_call 164; (with_reducible refine (spec_l1Max.calls (max p q) (1 + d) _ _ (l1Max_f _ _)).mono ?_); rintro e w' ⟨rfl, ⟨nd, rfl⟩⟩; have t06 : (W5.drewN nd).cell? ⟨g, i, none⟩ = _ := t05; have p46 : (W5.drewN nd).cell? ⟨f i, j, none⟩ = _ := p4c; have p47 : (W5.drewN nd).frozen? ⟨f i, j, none⟩ = false := p4f; clear t05 p4c p4f t15 p35)
                go_roundg j
                case measure => omega
                case rel => exact ⟨j, _, by omega, Nat.le_refl _, by go_num, (AT5.out.below (pw_below_drewN (Below.refl _ _) nd)).store hinn hjmm _, below_set (pw_below_drewN AB5.out nd) (AT5.out.row i hinn).1, done_put AD3.out _ (by have hv := HVAL.out; omega)⟩
              · have he : (x.toList == y.toList) = false := beq_eq_false_iff_ne.mpr (fun h => hxy (YtcapmfgamdiijaaDoorX.toList_inj h))
                go_wp2
                go_region_held3 (fun w' => w'.cell? (a0.add i) = some (.string x) ∧ w'.cell? (a1.add j) = some (.string y) ∧ Below W4.heap.size W4 w') (with_reducible first | assumption) ((fail))
                rename_i hHeld5
                clear hHeld5 hK0
                generalize hWe5 : World.drew W4 = W5
                have hb5 : Below wr.heap.size wr W5 := hb4.trans (by rw [← hWe5]; exact (below_drew1 (Below.refl _ _)).mono hb4.size)
                clear hWe5 c04 c14
                have AT5 := Lib.hid (AT3.out.below hb5)
                have AB5 := Lib.hid (AB3.out.trans (hb5.mono AB3.out.size))
                have t15 := (hb5.cell (World.block_lt_of_cell? wr _ t1)).trans t1
                have t05 := (hb5.cell (World.block_lt_of_cell? wr _ t0)).trans t0
                have p35 := (hb5.cell (World.block_lt_of_cell? wr _ p3)).trans p3
                have p45 := AT5.out.cell hinn hjmm
                have p4c := p45.1
                have p4f := p45.2
                clear p45 hb5 hb4 t1 t0 p1 p2 p3 p4
                have hval : max p q = lv l0 l1 i j := (HOTHER.out hxy).symm
                have HVAL := Lib.hid hval
                clear hval
                go_wp2
                go_roundg j
                case measure => omega
                case rel => exact ⟨j, _, by omega, Nat.le_refl _, by go_num, AT5.out.store hinn hjmm _, below_set AB5.out (AT5.out.row i hinn).1, done_put AD3.out _ HVAL.out⟩
            · have hj0 : jj = 0 := by omega
              subst hj0
              have hhz : ¬ (((0 : Nat) : Int) - 1 ≥ 0) := by omega
              subst e8
              have hwi : IntKind.i64.wrap ((i : Int) - 1) = (i : Int) - 1 := wrapI (by omega) (by omega)
              go_wp2
              go_roundg i
              case measure => omega
              case rel => exact ⟨i, T3, by omega, Nat.le_refl _, by go_num, AT3.out, AB3.out, fun a b ha hb hc => AD3.out a b ha hb (by omega)⟩
        · subst e7
          have hgb : decide ((ii : Int) - 1 ≥ 0) = false := decide_eq_false (by omega)
          have hgz : ¬ ((ii : Int) - 1 ≥ 0) := by omega
          have hi0 : ii = 0 := by omega
          subst hi0
          have HTZ : Tab wr w.heap.size (.slice (some ⟨g, 0, none⟩) nn cap) nn nn m f (lv l0 l1) := AT2.out.congr fun i j hi hj => AD.out i j (by have := HNN.out; omega) (by have := HM.out; omega) (.inl (Nat.zero_le _))
          have HZ := Lib.hid HTZ
          clear HTZ AT2 AD
          go_wp2
          go_ret
          have HN2 := HNN.out
          have HM2 := HM.out
          have hz := HZ.out.toS (by omega)
          refine ⟨_, rfl, ?_, AB2.out⟩
          rw [← HN2, ← HM2]
          exact hz
end Go.Proofs.YtcapmfgamdiijaaDoor.PX.X

namespace Go.Proofs.YtcapmfgamdiijaaDoor.PX
open Go.RowKit Go.Proofs.YtcapmfgamdiijaaDoorW.PrintWords Go.Proofs.YtcapmfgamdiijaaDoorW.PrintLast Go.Proofs.YtcapmfgamdiijaaDoorW.PrintMore
attribute [local go_sem] max2_int min2_int max_two min_two max_three min_three max_four min_four   -- for this text's walks alone
set_option linter.unusedVariables false
set_option linter.unusedSimpArgs false

/-! ### spec_l2Table: function 136 -/
def spec_l2Table.f (l0 l1 : List ByteArray) : Option (List (List Int)) := if l0.length ≤ 1048576 then (if l1.length ≤ 1048576 then some (X.tabOf (l0.length + 1) (l1.length + 1) (X.lv l0 l1)) else none) else none
theorem spec_l2Table.calls (A0 : Option Addr) (c0 : Nat) (l0 : List ByteArray) (A1 : Option Addr) (c1 : Nat) (l1 : List ByteArray) (r : List (List Int)) (w : World) (hr0 : Kd.C Kd.string w A0 l0.length l0) (hc0 : l0.length ≤ c0) (hr1 : Kd.C Kd.string w A1 l1.length l1) (hc1 : l1.length ≤ c1) (h : spec_l2Table.f l0 l1 = some r) :
  Calls Tryd.prog 136 #[.slice A0 l0.length c0, .slice A1 l1.length c1] w fun e w' => ∃ v0_ : Value, e = .returned (v0_) ∧ Kd.S (Kd.slice 2 (Kd.int .i64)) 153 w' w.heap.size (fun _ => True) v0_ r ∧ Below w.heap.size w w' := by
 unfold spec_l2Table.f at h
 by_cases h1 : l0.length ≤ 1048576
 ·
  rw [if_pos h1] at h
  by_cases h2 : l1.length ≤ 1048576
  ·
   rw [if_pos h2] at h
   obtain rfl := Option.some.inj h
   exact X.table_calls A0 c0 l0 A1 c1 l1 w hr0 hr1 h1 h2
  ·
   rw [if_neg h2] at h
   cases h
 ·
  rw [if_neg h1] at h
  cases h


/-! ### spec_l8Score: function 71 -/
def spec_l8Score.j0 : Nat → ByteArray → ByteArray → Bool → Option (Int)
 | 0, _, _, _ => none
 | k + 1, x0, x1, x15 => if x15 = true then (some 0) else ((spec_l1Split.f k x0).bind fun t949 => ((spec_l1Split.f k x1).bind fun t952 => ((spec_l2Table.f t949 t952).bind fun t955 => (if 0 < (t955.length : Int) then (if 0 < ((rd_L17 t955 0).length : Int) then (if (wrap64 ((t949.length : Int) + (t952.length : Int))) = 0 then (none) else (some (wrap64 (Int.tdiv (wrap64 (2000 * (rd (rd_L17 t955 0) 0))) (wrap64 ((t949.length : Int) + (t952.length : Int))))))) else (none)) else (none)))))
def spec_l8Score.f (k : Nat) (a0 : ByteArray) (a1 : ByteArray) : Option (Int) := if a0.toList = a1.toList then (some 1000) else ((spec_IsBinary.f k a0).bind fun t947 => (if t947 = true then (spec_l8Score.j0 k a0 a1 true) else ((spec_IsBinary.f k a1).bind fun t948 => (spec_l8Score.j0 k a0 a1 t948))))
theorem spec_l8Score.mono_l : ∀ k, (∀ y0 y1 y2, LeO (spec_l8Score.j0 k y0 y1 y2) (spec_l8Score.j0 (k + 1) y0 y1 y2))
 | 0 => fun _ _ _ r h => by simp [spec_l8Score.j0] at h
 | k + 1 => by
  have ih0 := spec_l8Score.mono_l k
  ·
   intro y0 y1 y2
   unfold spec_l8Score.j0
   repeat' first
   | (with_reducible exact ih0 _ _ _)
   | (with_reducible exact spec_IsBinary.mono _ _)
   | (with_reducible exact spec_l1Split.mono _ _)
   | (with_reducible exact LeO.refl _)
   | (with_reducible exact LeO.none _)
   | (with_reducible refine LeO.ite ?_ ?_)
   | (with_reducible refine LeO.bind ?_ (fun _ => ?_))
   | exact ih0 _ _ _
   | exact spec_IsBinary.mono _ _
   | exact spec_l1Split.mono _ _
   | exact LeO.none _
   | refine LeO.ite ?_ ?_
   | refine LeO.bind ?_ (fun _ => ?_)
theorem spec_l8Score.mono : ∀ a0 a1 k, LeO (spec_l8Score.f k a0 a1) (spec_l8Score.f (k + 1) a0 a1) := by
 intro a0 a1 k
 have ih0 := spec_l8Score.mono_l k
 unfold spec_l8Score.f
 repeat' first
   | (with_reducible exact ih0 _ _ _)
   | (with_reducible exact spec_IsBinary.mono _ _)
   | (with_reducible exact spec_l1Split.mono _ _)
   | (with_reducible exact LeO.refl _)
   | (with_reducible exact LeO.none _)
   | (with_reducible refine LeO.ite ?_ ?_)
   | (with_reducible refine LeO.bind ?_ (fun _ => ?_))
   | exact ih0 _ _ _
   | exact spec_IsBinary.mono _ _
   | exact spec_l1Split.mono _ _
   | exact LeO.none _
   | refine LeO.ite ?_ ?_
   | refine LeO.bind ?_ (fun _ => ?_)
set_option maxHeartbeats 8000000 in
set_option maxRecDepth 100000 in
theorem spec_l8Score.calls (k : Nat) (a0 : ByteArray) (a1 : ByteArray) (r : Int) (w : World) (h : spec_l8Score.f k a0 a1 = some r) :
  Calls Tryd.prog 71 #[.string a0, .string a1] w fun e w' => e = .returned (.int .i64 r) ∧ Below w.heap.size w w' := by
 have HB := zK (Below.refl w.heap.size w)
 have H : (if a0.toList = a1.toList then (some 1000) else ((spec_IsBinary.f k a0).bind fun t947 => (if t947 = true then (spec_l8Score.j0 k a0 a1 true) else ((spec_IsBinary.f k a1).bind fun t948 => (spec_l8Score.j0 k a0 a1 t948))))) = some r := h
 clear h
 by_cases c3 : a0.toList = a1.toList
 ·
  rw [if_pos c3] at H
  have c3b0 : (a0.toList == a1.toList) = true := beq_iff_eq.mpr c3
  have c3b1 : (a0.toList != a1.toList) = false := bne_eq_false_iff_eq.mpr c3
  clear c3
  obtain rfl := Option.some.inj H
  go_enter Tryd.func71, Tryd.ntmps71
  go_wp2
  go_ret
  exact ⟨by first | rfl | (simp [errW_none, errW_some] <;> rfl) | (simp [*, errW_none, errW_some] <;> rfl), by repeat (first | (with_reducible first | exact HB.out | apply zA | apply zN | apply zD) | exact HB.out)⟩
 ·
  rw [if_neg c3] at H
  have c3b0 : (a0.toList == a1.toList) = false := beq_eq_false_iff_ne.mpr c3
  have c3b1 : (a0.toList != a1.toList) = true := bne_iff_ne.mpr c3
  have HC4 := zK H
  clear H
  go_enter Tryd.func71, Tryd.ntmps71
  go_upto_region 3 with (fail)
  go_cut [15] (fun v15 wc => ∃ (kq : Nat) (x15_3 : Bool), v15 = .bool x15_3 ∧ Aside0 (spec_l8Score.j0 kq a0 a1 x15_3 = some r) ∧ Aside0 (kq ≤ k) ∧ Aside0 (Below w.heap.size w wc))
  case first =>
   have H := HC4.out
   clear HC4
   replace H := Option.bind_eq_some_iff.mp H
   obtain ⟨t947, A50, H⟩ := H
   replace H : (if t947 = true then (spec_l8Score.j0 k a0 a1 true) else ((spec_IsBinary.f k a1).bind fun t948 => (spec_l8Score.j0 k a0 a1 t948))) = some r := H
   have A5 := zK A50
   clear A50
   by_cases c6 : t947 = true
   ·
    subst c6
    have H1 : (spec_l8Score.j0 k a0 a1 true) = some r := by rw [if_pos rfl] at H; exact H
    clear H
    have H := H1
    clear H1
    have H' := zK H
    clear H
    go_wp2_with (first | ((with_reducible refine gate_callee (f := 135) rfl ?_); refine goesL_ (some 11) rfl rfl Tryd.func135 (by kernel_rfl) rfl #[.string a0] rfl (by (try simp only [List.map_toArray, List.map_cons, List.map_nil]); first | done | rfl | (simp only [List.length_drop, List.length_take]; rfl)) ?_; (with_reducible refine (spec_IsBinary.calls k a0 true _ A5.out).mono ?_); rintro e w' ⟨rfl, ⟨nd, rfl⟩⟩; refine ⟨_, rfl, ?_⟩))
    go_meet
    case rel => exact ⟨_, (true), (by first | rfl | (simp; done) | (simp [*]; done)), H', ⟨by first | omega | exact Nat.le_refl _⟩, ⟨by repeat (first | (with_reducible first | exact HB.out | apply zA | apply zN | apply zD) | exact HB.out)⟩⟩
   ·
    replace c6 := Bool.eq_false_iff.mpr c6
    subst c6
    have H1 : ((spec_IsBinary.f k a1).bind fun t948 => (spec_l8Score.j0 k a0 a1 t948)) = some r := by rw [if_neg (show ¬ (false = true) by decide)] at H; exact H
    clear H
    have H := H1
    clear H1
    replace H := Option.bind_eq_some_iff.mp H
    obtain ⟨t948, A70, H⟩ := H
    replace H : (spec_l8Score.j0 k a0 a1 t948) = some r := H
    have A7 := zK A70
    clear A70
    have H' := zK H
    clear H
    go_wp2_with (first | ((with_reducible refine gate_callee (f := 135) rfl ?_); refine goesL_ (some 11) rfl rfl Tryd.func135 (by kernel_rfl) rfl #[.string a0] rfl (by (try simp only [List.map_toArray, List.map_cons, List.map_nil]); first | done | rfl | (simp only [List.length_drop, List.length_take]; rfl)) ?_; (with_reducible refine (spec_IsBinary.calls k a0 false _ A5.out).mono ?_); rintro e w' ⟨rfl, ⟨nd, rfl⟩⟩; refine ⟨_, rfl, ?_⟩) | (go_at_call 135; (with_reducible refine (spec_IsBinary.calls k a1 t948 _ A7.out).mono ?_); rintro e w' ⟨rfl, ⟨nd, rfl⟩⟩))
    go_meet
    case rel => exact ⟨_, (t948), (by first | rfl | (simp; done) | (simp [*]; done)), H', ⟨by first | omega | exact Nat.le_refl _⟩, ⟨by repeat (first | (with_reducible first | exact HB.out | apply zA | apply zN | apply zD) | exact HB.out)⟩⟩
  case rest =>
   clear HC4
   try clear c1
   try clear p2
   try clear c3
   try clear c3b0
   try clear c3b1
   try clear c6
   try clear c7
   obtain ⟨kq, x15_3, rfl, HA, HJ3, HB⟩ := hcut
   cases kq with
   | zero => exact absurd HA.out (by simp [spec_l8Score.j0])
   | succ kj3 =>
    have H := HA.out
    clear HA
    simp only [spec_l8Score.j0] at H
    by_cases c8 : x15_3 = true
    ·
     subst c8
     have H1 : (some 0) = some r := by rw [if_pos rfl] at H; exact H
     clear H
     have H := H1
     clear H1
     obtain rfl := Option.some.inj H
     go_wp2
     go_ret
     exact ⟨by first | rfl | (simp [errW_none, errW_some] <;> rfl) | (simp [*, errW_none, errW_some] <;> rfl), by repeat (first | (with_reducible first | exact HB.out | apply zA | apply zN | apply zD) | exact HB.out)⟩
    ·
     replace c8 := Bool.eq_false_iff.mpr c8
     subst c8
     have H1 : ((spec_l1Split.f kj3 a0).bind fun t949 => ((spec_l1Split.f kj3 a1).bind fun t952 => ((spec_l2Table.f t949 t952).bind fun t955 => (if 0 < (t955.length : Int) then (if 0 < ((rd_L17 t955 0).length : Int) then (if (wrap64 ((t949.length : Int) + (t952.length : Int))) = 0 then (none) else (some (wrap64 (Int.tdiv (wrap64 (2000 * (rd (rd_L17 t955 0) 0))) (wrap64 ((t949.length : Int) + (t952.length : Int))))))) else (none)) else (none))))) = some r := by rw [if_neg (show ¬ (false = true) by decide)] at H; exact H
     clear H
     have H := H1
     clear H1
     replace H := Option.bind_eq_some_iff.mp H
     obtain ⟨t949, A90, H⟩ := H
     replace H : ((spec_l1Split.f kj3 a1).bind fun t952 => ((spec_l2Table.f t949 t952).bind fun t955 => (if 0 < (t955.length : Int) then (if 0 < ((rd_L17 t955 0).length : Int) then (if (wrap64 ((t949.length : Int) + (t952.length : Int))) = 0 then (none) else (some (wrap64 (Int.tdiv (wrap64 (2000 * (rd (rd_L17 t955 0) 0))) (wrap64 ((t949.length : Int) + (t952.length : Int))))))) else (none)) else (none)))) = some r := H
     have A9 := zK A90
     clear A90
     replace H := Option.bind_eq_some_iff.mp H
     obtain ⟨t952, A100, H⟩ := H
     replace H : ((spec_l2Table.f t949 t952).bind fun t955 => (if 0 < (t955.length : Int) then (if 0 < ((rd_L17 t955 0).length : Int) then (if (wrap64 ((t949.length : Int) + (t952.length : Int))) = 0 then (none) else (some (wrap64 (Int.tdiv (wrap64 (2000 * (rd (rd_L17 t955 0) 0))) (wrap64 ((t949.length : Int) + (t952.length : Int))))))) else (none)) else (none))) = some r := H
     have A10 := zK A100
     clear A100
     replace H := Option.bind_eq_some_iff.mp H
     obtain ⟨t955, A110, H⟩ := H
     replace H : (if 0 < (t955.length : Int) then (if 0 < ((rd_L17 t955 0).length : Int) then (if (wrap64 ((t949.length : Int) + (t952.length : Int))) = 0 then (none) else (some (wrap64 (Int.tdiv (wrap64 (2000 * (rd (rd_L17 t955 0) 0))) (wrap64 ((t949.length : Int) + (t952.length : Int))))))) else (none)) else (none)) = some r := H
     have A11 := zK A110
     clear A110
     by_cases c12 : 0 < (t955.length : Int)
     ·
      rw [if_pos c12] at H
      have c12b0 : decide (0 < (t955.length : Int)) = true := decide_eq_true c12
      have c12b1 : decide (0 < t955.length) = true := decide_eq_true (by omega)
      clear c12
      by_cases c13 : 0 < ((rd_L17 t955 0).length : Int)
      ·
       rw [if_pos c13] at H
       have c13b0 : decide (0 < ((rd_L17 t955 0).length : Int)) = true := decide_eq_true c13
       have c13b1 : decide (0 < (rd_L17 t955 0).length) = true := decide_eq_true (by omega)
       clear c13
       by_cases c14 : (wrap64 ((t949.length : Int) + (t952.length : Int))) = 0
       ·
        rw [if_pos c14] at H
        exact absurd H (by simp)
       ·
        rw [if_neg c14] at H
        have c14b0 : ((wrap64 ((t949.length : Int) + (t952.length : Int))) == 0) = false := beq_eq_false_iff_ne.mpr c14
        have c14b1 : ((wrap64 ((t949.length : Int) + (t952.length : Int))) != 0) = true := bne_iff_ne.mpr c14
        obtain rfl := Option.some.inj H
        go_wp2_with (first | ((with_reducible refine gate_callee (f := 134) rfl ?_); refine goesL_ (some 17) rfl rfl Tryd.func134 (by kernel_rfl) rfl #[.string a0] rfl (by (try simp only [List.map_toArray, List.map_cons, List.map_nil]); first | done | rfl | (simp only [List.length_drop, List.length_take]; rfl)) ?_; (with_reducible refine (spec_l1Split.calls kj3 a0 t949 _ A9.out).mono ?_); rintro e w15 ⟨v950, rfl, ho0, hb⟩; refine ⟨_, rfl, ?_⟩; have n0_ := zK (Kd.R_lower ho0 (below_size (by repeat (first | (with_reducible first | exact HB.out | apply zA | apply zN | apply zD) | exact HB.out)))); have n1_ := zK (below_step (by repeat (first | (with_reducible first | exact HB.out | apply zA | apply zN | apply zD) | exact HB.out)) hb); clear HB; have HO951 := n0_; have HB := n1_; clear n0_ n1_; (try clear hb); (try clear hb2); (try clear hk); (try clear hi); (try clear ho0)) | ((with_reducible refine gate_callee (f := 134) rfl ?_); refine goesL_ (some 19) rfl rfl Tryd.func134 (by kernel_rfl) rfl #[.string a1] rfl (by (try simp only [List.map_toArray, List.map_cons, List.map_nil]); first | done | rfl | (simp only [List.length_drop, List.length_take]; rfl)) ?_; (with_reducible refine (spec_l1Split.calls kj3 a1 t952 _ A10.out).mono ?_); rintro e w16 ⟨v953, rfl, ho0, hb⟩; refine ⟨_, rfl, ?_⟩; have n0_ := zK (Kd.R_elder' (by (with_reducible repeat (first | apply zR | apply zV | apply zW)); exact HO951.out) (Kd.R_base ho0) hb); have n1_ := zK (Kd.R_lower (Kd.R_new' ho0 (Kd.R_lt (by (with_reducible repeat (first | apply zR | apply zV | apply zW)); exact HO951.out))) (below_size (by repeat (first | (with_reducible first | exact HB.out | apply zA | apply zN | apply zD) | exact HB.out)))); have n2_ := zK (below_step (by repeat (first | (with_reducible first | exact HB.out | apply zA | apply zN | apply zD) | exact HB.out)) hb); clear HO951; clear HB; have HO951 := n0_; have HO954 := n1_; have HB := n2_; clear n0_ n1_ n2_; (try clear hb); (try clear hb2); (try clear hk); (try clear hi); (try clear ho0); obtain ⟨Ao17, co17, eo17⟩ := Kd.R_slice HO951.out; subst eo17; obtain ⟨Ao18, co18, eo18⟩ := Kd.R_slice HO954.out; subst eo18) | ((with_reducible refine gate_callee (f := 136) rfl ?_); refine goesL_ (some 22) rfl rfl Tryd.func136 (by kernel_rfl) rfl #[.slice Ao17 t949.length co17, .slice Ao18 t952.length co18] rfl (by (try simp only [List.map_toArray, List.map_cons, List.map_nil]); first | done | rfl | (simp only [List.length_drop, List.length_take]; rfl)) ?_; (with_reducible refine (spec_l2Table.calls _ _ t949 _ _ t952 t955 _ ?side1 ?side2 ?side3 ?side4 A11.out).mono ?_); (case side1 => repeat (first | exact (Kd.R_reads' HO951.out).2.2 | (with_reducible refine Kd.C_alloc ?_ _) | (with_reducible refine Kd.C_drewN ?_ _) | (with_reducible refine Kd.C_drew ?_))); (case side2 => exact (Kd.R_reads' HO951.out).2.1); (case side3 => repeat (first | exact (Kd.R_reads' HO954.out).2.2 | (with_reducible refine Kd.C_alloc ?_ _) | (with_reducible refine Kd.C_drewN ?_ _) | (with_reducible refine Kd.C_drew ?_))); (case side4 => exact (Kd.R_reads' HO954.out).2.1); rintro e w19 ⟨v956, rfl, ho0, hb⟩; refine ⟨_, rfl, ?_⟩; have n0_ := zK (Kd.R_below (by (with_reducible repeat (first | apply zR | apply zV | apply zW)); exact HO951.out) hb); have n1_ := zK (Kd.R_below (by (with_reducible repeat (first | apply zR | apply zV | apply zW)); exact HO954.out) hb); have n2_ := zK (Kd.S_lower ho0 (below_size (by repeat (first | (with_reducible first | exact HB.out | apply zA | apply zN | apply zD) | exact HB.out)))); have n3_ := zK (below_step (by repeat (first | (with_reducible first | exact HB.out | apply zA | apply zN | apply zD) | exact HB.out)) hb); clear HO951; clear HO954; clear HB; have HO951 := n0_; have HO954 := n1_; have HO957 := n2_; have HB := n3_; clear n0_ n1_ n2_ n3_; (try clear hb); (try clear hb2); (try clear hk); (try clear hi); (try clear ho0); obtain ⟨Ao20, co20, eo20⟩ := Kd.S_slice HO957.out; subst eo20; have p958 : 0 ≤ (0 : Int) := (by omega); have q958 : 0 < (t955.length : Int) := zX (by first | (with_reducible assumption) | assumption); obtain ⟨ad958, A958_0, c958_0, e958, hx958_0, hl958_0, hi958_0⟩ := at_L17 (Kd.S_reads' HO957.out).2.2 0 p958 q958; cases e958; obtain ⟨ce958, hce958, hMe958, hcc958⟩ := Kd.S_get HO957.out [] 0 p958 (by first | exact q958 | exact zX (by first | (with_reducible assumption) | assumption) | (have e_ := (Kd.S_reads' HO957.out).1; omega)); obtain ⟨ve958_0, rfl, ge958_0⟩ := hMe958; have hv958_0 := hcc958 0 _ rfl; rw [Nat.add_zero, show ((Kd.slice 2 (Kd.int .i64))).sz = 1 from rfl, Nat.mul_one] at hv958_0; replace hv958_0 := Option.some.inj (hv958_0.symm.trans hx958_0); rw [hv958_0] at ge958_0; have HL958_0 := zK (show Kd.R (Kd.int .i64) 2 _ _ _ _ (rd_L17 t955 0) from ge958_0); clear hv958_0 ge958_0; clear hcc958 hce958; have qi958 : (0 < t955.length) = True := eq_true (by omega); (try rw [show ((0 : Int)).toNat = 0 from rfl] at hx958_0); (try rw [Addr.add_zero'] at hx958_0); have HR958_0 := zK hi958_0; have HC958_0 := zK hl958_0; clear hi958_0 hl958_0; replace p958 := eq_true p958; replace q958 := eq_true q958; have p959 : 0 ≤ (0 : Int) := (by omega); have q959 : 0 < ((rd_L17 t955 0).length : Int) := zX (by first | (with_reducible assumption) | assumption); obtain ⟨ad959, e959, hx959_0⟩ := Kd.at_int (by repeat (first | (with_reducible exact HR958_0.out) | (with_reducible refine Kd.C_alloc ?_ _) | (with_reducible refine Kd.C_drewN ?_ _) | (with_reducible refine Kd.C_drew ?_) | exact HR958_0.out)) 0 p959 q959; cases e959; have qi959 : (0 < (rd_L17 t955 0).length) = True := eq_true (by omega); (try rw [show ((0 : Int)).toNat = 0 from rfl] at hx959_0); (try rw [Addr.add_zero'] at hx959_0); replace p959 := eq_true p959; replace q959 := eq_true q959))
        go_ret
        exact ⟨by first | rfl | (simp [errW_none, errW_some] <;> rfl) | (simp [*, errW_none, errW_some] <;> rfl), by repeat (first | (with_reducible first | exact HB.out | apply zA | apply zN | apply zD) | exact HB.out)⟩
      ·
       rw [if_neg c13] at H
       exact absurd H (by simp)
     ·
      rw [if_neg c12] at H
      exact absurd H (by simp)


/-! ### spec_ScoreTexts: function 15 -/
def spec_ScoreTexts.f (k : Nat) (a0 : ByteArray) (a1 : ByteArray) : Option (Int × Int) := (spec_TextFault.f k a0).bind fun t961 => (if t961 = 0 then ((spec_TextFault.f k a1).bind fun t962 => (if t962 = 0 then ((spec_l8Score.f k a0 a1).bind fun t963 => (some (0, t963))) else (some (t962, 0)))) else (some (t961, 0)))
theorem spec_ScoreTexts.mono : ∀ a0 a1 k, LeO (spec_ScoreTexts.f k a0 a1) (spec_ScoreTexts.f (k + 1) a0 a1) := by
 intro a0 a1 k
 unfold spec_ScoreTexts.f
 repeat' first
   | (with_reducible exact spec_TextFault.mono _ _)
   | (with_reducible exact spec_l8Score.mono _ _ _)
   | (with_reducible exact LeO.refl _)
   | (with_reducible exact LeO.none _)
   | (with_reducible refine LeO.ite ?_ ?_)
   | (with_reducible refine LeO.bind ?_ (fun _ => ?_))
   | exact spec_TextFault.mono _ _
   | exact spec_l8Score.mono _ _ _
   | exact LeO.none _
   | refine LeO.ite ?_ ?_
   | refine LeO.bind ?_ (fun _ => ?_)
set_option maxHeartbeats 8000000 in
set_option maxRecDepth 100000 in
theorem spec_ScoreTexts.calls (k : Nat) (a0 : ByteArray) (a1 : ByteArray) (r1 : Int) (r2 : Int) (w : World) (h : spec_ScoreTexts.f k a0 a1 = some (r1, r2)) :
  Calls Tryd.prog 15 #[.string a0, .string a1] w fun e w' => e = .returned (.agg #[.int .i64 r1, .int .i64 r2]) ∧ Below w.heap.size w w' := by
 have hu23 := Tryd.underlying23
 have HB := zK (Below.refl w.heap.size w)
 have H : ((spec_TextFault.f k a0).bind fun t961 => (if t961 = 0 then ((spec_TextFault.f k a1).bind fun t962 => (if t962 = 0 then ((spec_l8Score.f k a0 a1).bind fun t963 => (some (0, t963))) else (some (t962, 0)))) else (some (t961, 0)))) = some (r1, r2) := h
 clear h
 replace H := Option.bind_eq_some_iff.mp H
 obtain ⟨t961, A30, H⟩ := H
 replace H : (if t961 = 0 then ((spec_TextFault.f k a1).bind fun t962 => (if t962 = 0 then ((spec_l8Score.f k a0 a1).bind fun t963 => (some (0, t963))) else (some (t962, 0)))) else (some (t961, 0))) = some (r1, r2) := H
 have A3 := zK A30
 clear A30
 by_cases c4 : t961 = 0
 ·
  rw [if_pos c4] at H
  have c4b0 : (t961 == 0) = true := beq_iff_eq.mpr c4
  have c4b1 : (t961 != 0) = false := bne_eq_false_iff_eq.mpr c4
  clear c4
  replace H := Option.bind_eq_some_iff.mp H
  obtain ⟨t962, A50, H⟩ := H
  replace H : (if t962 = 0 then ((spec_l8Score.f k a0 a1).bind fun t963 => (some (0, t963))) else (some (t962, 0))) = some (r1, r2) := H
  have A5 := zK A50
  clear A50
  by_cases c6 : t962 = 0
  ·
   rw [if_pos c6] at H
   have c6b0 : (t962 == 0) = true := beq_iff_eq.mpr c6
   have c6b1 : (t962 != 0) = false := bne_eq_false_iff_eq.mpr c6
   clear c6
   replace H := Option.bind_eq_some_iff.mp H
   obtain ⟨t963, A70, H⟩ := H
   replace H : (some (0, t963)) = some (r1, r2) := H
   have A7 := zK A70
   clear A70
   simp only [Option.some.injEq, Prod.mk.injEq] at H
   obtain ⟨rfl, rfl⟩ := H
   go_enter Tryd.func15, Tryd.ntmps15
   go_wp2_with (first | ((with_reducible refine gate_dst (N := 4) rfl ?_); refine box_event ?hg (N := 4) ?hd (cs := #[.int .i64 0, .int .i64 0]) (t := 23) ?hr ?_; (case hd => rfl); (case hg => rfl); (case hr => first | (go_simp; done) | (go_simp; rfl)); intro gb960 hg w8 hbox hb; have n0_ := zK (below_step (by repeat (first | (with_reducible first | exact HB.out | apply zA | apply zN | apply zD) | exact HB.out)) hb); have n1_ := zK (hbox); have n2_ := zK ((by rw [hg]; exact (below_size (by repeat (first | (with_reducible first | exact HB.out | apply zA | apply zN | apply zD) | exact HB.out))) : w.heap.size ≤ gb960)); have n3_ := zK ((by rw [hg]; exact (below_size (by repeat (first | (with_reducible first | exact HB.out | apply zA | apply zN | apply zD) | exact HB.out))) : w.heap.size ≤ gb960)); clear HB; have HB := n0_; have BK960 := n1_; have GW960 := n2_; have GE960 := n3_; clear n0_ n1_ n2_ n3_; clear hb hbox hg) | ((with_reducible refine gate_callee (f := 70) rfl ?_); refine goesL_ (some 8) rfl rfl Tryd.func70 (by kernel_rfl) rfl #[.string a0] rfl (by (try simp only [List.map_toArray, List.map_cons, List.map_nil]); first | done | rfl | (simp only [List.length_drop, List.length_take]; rfl)) ?_; (with_reducible refine (spec_TextFault.calls k a0 t961 _ A3.out).mono ?_); rintro e w9 ⟨rfl, hb⟩; refine ⟨_, rfl, ?_⟩; have n0_ := zK (blk_below (g := gb960) (o := .cells #[.int .i64 0, .int .i64 0] 23 (0, 0)) (by (with_reducible repeat (first | refine zM ?_ _ | refine zP ?_ | refine zQ ?_ _)); exact BK960.out) hb); have n1_ := zK (below_step (by repeat (first | (with_reducible first | exact HB.out | apply zA | apply zN | apply zD | refine below_set ?_ GE960.out) | exact HB.out)) hb); clear BK960; clear HB; have BK960 := n0_; have HB := n1_; clear n0_ n1_; (try clear hb); (try clear hb2); (try clear hk); (try clear hi)) | ((with_reducible refine gate_callee (f := 70) rfl ?_); refine goesL_ (some 14) rfl rfl Tryd.func70 (by kernel_rfl) rfl #[.string a1] rfl (by (try simp only [List.map_toArray, List.map_cons, List.map_nil]); first | done | rfl | (simp only [List.length_drop, List.length_take]; rfl)) ?_; (with_reducible refine (spec_TextFault.calls k a1 t962 _ A5.out).mono ?_); rintro e w10 ⟨rfl, hb⟩; refine ⟨_, rfl, ?_⟩; have n0_ := zK (blk_below (g := gb960) (o := .cells #[.int .i64 0, .int .i64 0] 23 (0, 0)) (by (with_reducible repeat (first | refine zM ?_ _ | refine zP ?_ | refine zQ ?_ _)); exact BK960.out) hb); have n1_ := zK (below_step (by repeat (first | (with_reducible first | exact HB.out | apply zA | apply zN | apply zD | refine below_set ?_ GE960.out) | exact HB.out)) hb); clear BK960; clear HB; have BK960 := n0_; have HB := n1_; clear n0_ n1_; (try clear hb); (try clear hb2); (try clear hk); (try clear hi)) | ((with_reducible refine gate_callee (f := 71) rfl ?_); refine goesL_ (some 21) rfl rfl Tryd.func71 (by kernel_rfl) rfl #[.string a0, .string a1] rfl (by (try simp only [List.map_toArray, List.map_cons, List.map_nil]); first | done | rfl | (simp only [List.length_drop, List.length_take]; rfl)) ?_; (with_reducible refine (spec_l8Score.calls k a0 a1 t963 _ A7.out).mono ?_); rintro e w11 ⟨rfl, hb⟩; refine ⟨_, rfl, ?_⟩; have n0_ := zK (blk_below (g := gb960) (o := .cells #[.int .i64 0, .int .i64 0] 23 (0, 0)) (by (with_reducible repeat (first | refine zM ?_ _ | refine zP ?_ | refine zQ ?_ _)); exact BK960.out) hb); have n1_ := zK (below_step (by repeat (first | (with_reducible first | exact HB.out | apply zA | apply zN | apply zD | refine below_set ?_ GE960.out) | exact HB.out)) hb); clear BK960; clear HB; have BK960 := n0_; have HB := n1_; clear n0_ n1_; (try clear hb); (try clear hb2); (try clear hk); (try clear hi); have hcz12_0 : w11.cell? ⟨gb960, 0, none⟩ = some (.int .i64 0) := (blk_cell BK960.out 0).trans rfl; have hcz12_1 : w11.cell? ⟨gb960, 1, none⟩ = some (.int .i64 0) := (blk_cell BK960.out 1).trans rfl; have hfz12_0 := blk_frozen BK960.out 0; have hfz12_1 := blk_frozen BK960.out 1))
   refine bodyPost_ret (results_cell_row rfl _ _ gb960 23 #[.int .i64 0, .int .i64 t963] (0, 0) _ rfl (by (with_reducible repeat (first | refine zM ?_ _ | refine zP ?_ | refine zQ ?_ _)); refine blk_put (cs := #[.int .i64 0, .int .i64 0]) ?_ 1 _ rfl; (with_reducible repeat (first | refine zM ?_ _ | refine zP ?_ | refine zQ ?_ _)); refine blk_put (cs := #[.int .i64 0, .int .i64 0]) ?_ 0 _ rfl; (with_reducible repeat (first | refine zM ?_ _ | refine zP ?_ | refine zQ ?_ _)); exact BK960.out) Tryd.underlying23 rfl (by kernel_rfl)) rfl ?_
   exact ⟨by first | rfl | (simp [errW_none, errW_some] <;> rfl) | (simp [*, errW_none, errW_some] <;> rfl), by repeat (first | (with_reducible first | exact HB.out | apply zA | apply zN | apply zD | refine below_set ?_ GE960.out) | exact HB.out)⟩
  ·
   rw [if_neg c6] at H
   have c6b0 : (t962 == 0) = false := beq_eq_false_iff_ne.mpr c6
   have c6b1 : (t962 != 0) = true := bne_iff_ne.mpr c6
   simp only [Option.some.injEq, Prod.mk.injEq] at H
   obtain ⟨rfl, rfl⟩ := H
   go_enter Tryd.func15, Tryd.ntmps15
   go_wp2_with (first | ((with_reducible refine gate_dst (N := 4) rfl ?_); refine box_event ?hg (N := 4) ?hd (cs := #[.int .i64 0, .int .i64 0]) (t := 23) ?hr ?_; (case hd => rfl); (case hg => rfl); (case hr => first | (go_simp; done) | (go_simp; rfl)); intro gb960 hg w13 hbox hb; have n0_ := zK (below_step (by repeat (first | (with_reducible first | exact HB.out | apply zA | apply zN | apply zD) | exact HB.out)) hb); have n1_ := zK (hbox); have n2_ := zK ((by rw [hg]; exact (below_size (by repeat (first | (with_reducible first | exact HB.out | apply zA | apply zN | apply zD) | exact HB.out))) : w.heap.size ≤ gb960)); have n3_ := zK ((by rw [hg]; exact (below_size (by repeat (first | (with_reducible first | exact HB.out | apply zA | apply zN | apply zD) | exact HB.out))) : w.heap.size ≤ gb960)); clear HB; have HB := n0_; have BK960 := n1_; have GW960 := n2_; have GE960 := n3_; clear n0_ n1_ n2_ n3_; clear hb hbox hg) | ((with_reducible refine gate_callee (f := 70) rfl ?_); refine goesL_ (some 8) rfl rfl Tryd.func70 (by kernel_rfl) rfl #[.string a0] rfl (by (try simp only [List.map_toArray, List.map_cons, List.map_nil]); first | done | rfl | (simp only [List.length_drop, List.length_take]; rfl)) ?_; (with_reducible refine (spec_TextFault.calls k a0 t961 _ A3.out).mono ?_); rintro e w14 ⟨rfl, hb⟩; refine ⟨_, rfl, ?_⟩; have n0_ := zK (blk_below (g := gb960) (o := .cells #[.int .i64 0, .int .i64 0] 23 (0, 0)) (by (with_reducible repeat (first | refine zM ?_ _ | refine zP ?_ | refine zQ ?_ _)); exact BK960.out) hb); have n1_ := zK (below_step (by repeat (first | (with_reducible first | exact HB.out | apply zA | apply zN | apply zD | refine below_set ?_ GE960.out) | exact HB.out)) hb); clear BK960; clear HB; have BK960 := n0_; have HB := n1_; clear n0_ n1_; (try clear hb); (try clear hb2); (try clear hk); (try clear hi)) | ((with_reducible refine gate_callee (f := 70) rfl ?_); refine goesL_ (some 14) rfl rfl Tryd.func70 (by kernel_rfl) rfl #[.string a1] rfl (by (try simp only [List.map_toArray, List.map_cons, List.map_nil]); first | done | rfl | (simp only [List.length_drop, List.length_take]; rfl)) ?_; (with_reducible refine (spec_TextFault.calls k a1 t962 _ A5.out).mono ?_); rintro e w15 ⟨rfl, hb⟩; refine ⟨_, rfl, ?_⟩; have n0_ := zK (blk_below (g := gb960) (o := .cells #[.int .i64 0, .int .i64 0] 23 (0, 0)) (by (with_reducible repeat (first | refine zM ?_ _ | refine zP ?_ | refine zQ ?_ _)); exact BK960.out) hb); have n1_ := zK (below_step (by repeat (first | (with_reducible first | exact HB.out | apply zA | apply zN | apply zD | refine below_set ?_ GE960.out) | exact HB.out)) hb); clear BK960; clear HB; have BK960 := n0_; have HB := n1_; clear n0_ n1_; (try clear hb); (try clear hb2); (try clear hk); (try clear hi); have hcz16_0 : w15.cell? ⟨gb960, 0, none⟩ = some (.int .i64 0) := (blk_cell BK960.out 0).trans rfl; have hcz16_1 : w15.cell? ⟨gb960, 1, none⟩ = some (.int .i64 0) := (blk_cell BK960.out 1).trans rfl; have hfz16_0 := blk_frozen BK960.out 0; have hfz16_1 := blk_frozen BK960.out 1))
   refine bodyPost_ret (results_cell_row rfl _ _ gb960 23 #[.int .i64 t962, .int .i64 0] (0, 0) _ rfl (by (with_reducible repeat (first | refine zM ?_ _ | refine zP ?_ | refine zQ ?_ _)); refine blk_put (cs := #[.int .i64 t962, .int .i64 0]) ?_ 1 _ rfl; (with_reducible repeat (first | refine zM ?_ _ | refine zP ?_ | refine zQ ?_ _)); refine blk_put (cs := #[.int .i64 0, .int .i64 0]) ?_ 0 _ rfl; (with_reducible repeat (first | refine zM ?_ _ | refine zP ?_ | refine zQ ?_ _)); exact BK960.out) Tryd.underlying23 rfl (by kernel_rfl)) rfl ?_
   exact ⟨by first | rfl | (simp [errW_none, errW_some] <;> rfl) | (simp [*, errW_none, errW_some] <;> rfl), by repeat (first | (with_reducible first | exact HB.out | apply zA | apply zN | apply zD | refine below_set ?_ GE960.out) | exact HB.out)⟩
 ·
  rw [if_neg c4] at H
  have c4b0 : (t961 == 0) = false := beq_eq_false_iff_ne.mpr c4
  have c4b1 : (t961 != 0) = true := bne_iff_ne.mpr c4
  simp only [Option.some.injEq, Prod.mk.injEq] at H
  obtain ⟨rfl, rfl⟩ := H
  go_enter Tryd.func15, Tryd.ntmps15
  go_wp2_with (first | ((with_reducible refine gate_dst (N := 4) rfl ?_); refine box_event ?hg (N := 4) ?hd (cs := #[.int .i64 0, .int .i64 0]) (t := 23) ?hr ?_; (case hd => rfl); (case hg => rfl); (case hr => first | (go_simp; done) | (go_simp; rfl)); intro gb960 hg w17 hbox hb; have n0_ := zK (below_step (by repeat (first | (with_reducible first | exact HB.out | apply zA | apply zN | apply zD) | exact HB.out)) hb); have n1_ := zK (hbox); have n2_ := zK ((by rw [hg]; exact (below_size (by repeat (first | (with_reducible first | exact HB.out | apply zA | apply zN | apply zD) | exact HB.out))) : w.heap.size ≤ gb960)); have n3_ := zK ((by rw [hg]; exact (below_size (by repeat (first | (with_reducible first | exact HB.out | apply zA | apply zN | apply zD) | exact HB.out))) : w.heap.size ≤ gb960)); clear HB; have HB := n0_; have BK960 := n1_; have GW960 := n2_; have GE960 := n3_; clear n0_ n1_ n2_ n3_; clear hb hbox hg) | ((with_reducible refine gate_callee (f := 70) rfl ?_); refine goesL_ (some 8) rfl rfl Tryd.func70 (by kernel_rfl) rfl #[.string a0] rfl (by (try simp only [List.map_toArray, List.map_cons, List.map_nil]); first | done | rfl | (simp only [List.length_drop, List.length_take]; rfl)) ?_; (with_reducible refine (spec_TextFault.calls k a0 t961 _ A3.out).mono ?_); rintro e w18 ⟨rfl, hb⟩; refine ⟨_, rfl, ?_⟩; have n0_ := zK (blk_below (g := gb960) (o := .cells #[.int .i64 0, .int .i64 0] 23 (0, 0)) (by (with_reducible repeat (first | refine zM ?_ _ | refine zP ?_ | refine zQ ?_ _)); exact BK960.out) hb); have n1_ := zK (below_step (by repeat (first | (with_reducible first | exact HB.out | apply zA | apply zN | apply zD | refine below_set ?_ GE960.out) | exact HB.out)) hb); clear BK960; clear HB; have BK960 := n0_; have HB := n1_; clear n0_ n1_; (try clear hb); (try clear hb2); (try clear hk); (try clear hi); have hcz19_0 : w18.cell? ⟨gb960, 0, none⟩ = some (.int .i64 0) := (blk_cell BK960.out 0).trans rfl; have hcz19_1 : w18.cell? ⟨gb960, 1, none⟩ = some (.int .i64 0) := (blk_cell BK960.out 1).trans rfl; have hfz19_0 := blk_frozen BK960.out 0; have hfz19_1 := blk_frozen BK960.out 1))
  refine bodyPost_ret (results_cell_row rfl _ _ gb960 23 #[.int .i64 t961, .int .i64 0] (0, 0) _ rfl (by (with_reducible repeat (first | refine zM ?_ _ | refine zP ?_ | refine zQ ?_ _)); refine blk_put (cs := #[.int .i64 t961, .int .i64 0]) ?_ 1 _ rfl; (with_reducible repeat (first | refine zM ?_ _ | refine zP ?_ | refine zQ ?_ _)); refine blk_put (cs := #[.int .i64 0, .int .i64 0]) ?_ 0 _ rfl; (with_reducible repeat (first | refine zM ?_ _ | refine zP ?_ | refine zQ ?_ _)); exact BK960.out) Tryd.underlying23 rfl (by kernel_rfl)) rfl ?_
  exact ⟨by first | rfl | (simp [errW_none, errW_some] <;> rfl) | (simp [*, errW_none, errW_some] <;> rfl), by repeat (first | (with_reducible first | exact HB.out | apply zA | apply zN | apply zD | refine below_set ?_ GE960.out) | exact HB.out)⟩

end Go.Proofs.YtcapmfgamdiijaaDoor.PX

namespace Go.Proofs.YtcapmfgamdiijaaDoor.PX.X
open Go Go.RowKit Go.Lib Go.Proofs.YtcapmfgamdiijaaDoorW.PrintWords Go.Proofs.YtcapmfgamdiijaaDoorW.PrintLast Go.Proofs.YtcapmfgamdiijaaDoorW.PrintMore Go.Proofs.YtcapmfgamdiijaaDoor.PX
attribute [local go_sem] max2_int min2_int max_two min_two
set_option linter.unusedVariables false
set_option linter.unusedSimpArgs false
set_option maxHeartbeats 1000000 in
set_option maxRecDepth 8000 in
theorem commons_calls (A0 : Option Addr) (c0 : Nat) (l0 : List ByteArray) (A1 : Option Addr) (c1 : Nat) (l1 : List ByteArray) (w : World) (hr0 : Kd.C Kd.string w A0 l0.length l0) (hr1 : Kd.C Kd.string w A1 l1.length l1) (hb0 : l0.length ≤ 1048576) (hb1 : l1.length ≤ 1048576) :
    Calls Tryd.prog 139 #[.slice A0 l0.length c0, .slice A1 l1.length c1] w fun e w' => ∃ v, e = .returned v ∧ Kd.S (Kd.slice 2 (Kd.int .i64)) 153 w' w.heap.size (fun _ => True) v (tabOf (l0.length + 1) (l1.length + 1) (lv l0 l1)) ∧ Below w.heap.size w w' := by
  have HR0 := Lib.hid hr0
  have HR1 := Lib.hid hr1
  clear hr0 hr1
  obtain ⟨m, hm⟩ : ∃ m, m = l1.length + 1 := ⟨_, rfl⟩
  obtain ⟨nn, hnn⟩ : ∃ nn, nn = l0.length + 1 := ⟨_, rfl⟩
  have hwm : IntKind.i64.wrap ((l1.length : Int) + 1) = (m : Int) := (wrapI (by omega) (by omega)).trans (by omega)
  have hwnn : IntKind.i64.wrap ((l0.length : Int) + 1) = (nn : Int) := (wrapI (by omega) (by omega)).trans (by omega)
  have hmk : ∀ W : World, (Instr.makeSlice 153 (.int .i64 (m : Int)) (.int .i64 (m : Int))).run Tryd.prog W = .ok (.slice (some ⟨W.heap.size, 0, none⟩) m m) (W.alloc (.cells (madeCells #[Value.int .i64 0] m) 2)) := print_make_of 153 2 (.int .i64 0) 8 Tryd.underlying153 info2 rfl (by decide) m (by omega)
  have hmt : (Instr.makeSlice 154 (.int .i64 (nn : Int)) (.int .i64 (nn : Int))).run Tryd.prog w = .ok (.slice (some ⟨w.heap.size, 0, none⟩) nn nn) (w.alloc (.cells (madeCells #[Value.slice none 0 0] nn) 153)) := print_make_of 154 153 (.slice none 0 0) 24 Tryd.underlying154 info153 rfl (by decide) nn (by omega) w
  have HMK := Lib.hid hmk
  have HWM := Lib.hid hwm
  have HM := Lib.hid hm
  have HNN := Lib.hid hnn
  have HT0 := Lib.hid (made_top w w.heap.size nn m (Nat.le_refl _) (by omega))
  have HB2 := Lib.hid (below_alloc (Below.refl w.heap.size w) (.cells (madeCells #[Value.slice none 0 0] nn) 153))
  clear hmk hwm hm hnn
  go_enter Tryd.func139, Tryd.ntmps139
  go_wp2
  generalize w.alloc (.cells (madeCells #[Value.slice none 0 0] nn) 153) = w1 at HT0 HB2 ⊢
  clear hmt hwnn
  obtain ⟨g, hg0⟩ : ∃ g, g = w.heap.size := ⟨_, rfl⟩
  have HG0 := Lib.hid hg0
  rw [← hg0] at HT0 ⊢
  clear hg0
  go_loopg [15] nn (fun gg s15 wr => ∃ (kk : Nat) (f : Nat → Nat), kk ≤ nn ∧ nn - kk ≤ gg ∧ s15 = .int .i64 kk ∧ Aside (Tab wr g (.slice (some ⟨g, 0, none⟩) nn nn) nn kk m f (fun _ _ => 0)) ∧ Aside (Below w.heap.size w wr))
  case atStart => exact ⟨0, _, Nat.zero_le _, by omega, rfl, HT0.out, HB2.out⟩
  case round =>
    obtain ⟨kk, f, hkk, hg, rfl, AT, AB⟩ := hrel
    clear HT0 HB2
    have hkz : (0 : Int) ≤ (kk : Int) := by omega
    by_cases hlt : kk < nn
    · have hltz : (kk : Int) < (nn : Int) := by omega
      have hmk := HMK.out
      have hwm := HWM.out
      obtain ⟨n1, n2⟩ := AT.out.topNil (Nat.le_refl kk) hlt
      have n3 : (wr.alloc (.cells (madeCells #[Value.int .i64 0] m) 2)).cell? ⟨g, kk, none⟩ = some (.slice none 0 0) := ((below_alloc (Below.refl wr.heap.size wr) (.cells (madeCells #[Value.int .i64 0] m) 2)).cell (World.block_lt_of_cell? wr _ n1)).trans n1
      have AT2 := AT.out.below (below_alloc (Below.refl wr.heap.size wr) (.cells (madeCells #[Value.int .i64 0] m) 2))
      have n4 := (AT2.topNil (Nat.le_refl kk) hlt).2
      have hgr : g ≤ wr.heap.size := Nat.le_trans (Nat.le_of_eq HG0.out) AB.out.size
      have hT5 := AT2.put hlt (blk_new wr _) hgr (by simp [size_madeCells]) (fun j hj => zeros_get m j hj) (fun i hi => Nat.ne_of_lt (AT.out.lt hi))
      have hB5 : Below w.heap.size w ((wr.alloc (.cells (madeCells #[Value.int .i64 0] m) 2)).setCell ⟨g, kk, none⟩ (rowV m wr.heap.size)) := below_set (below_alloc AB.out _) (Nat.le_of_eq HG0.out.symm)
      have HT5 := Lib.hid hT5
      have HB5 := Lib.hid hB5
      unfold rowV at HT5 HB5
      have hwk : IntKind.i64.wrap ((kk : Int) + 1) = (kk : Int) + 1 := wrapI (by omega) (by have hN := HNN.out; omega)
      clear hT5 hB5 AT2 n1 n2
      go_wp2
      go_roundg (nn - (kk + 1))
      case measure => omega
      case rel => exact ⟨kk + 1, _, by omega, Nat.le_refl _, by go_num, HT5.out, HB5.out⟩
    · have hke : kk = nn := by omega
      have hltz : ¬ (kk : Int) < (nn : Int) := by omega
      have at1 := AT.out
      rw [hke] at at1
      have AT1 := Lib.hid at1
      clear hke
      have hwn : IntKind.i64.wrap ((l0.length : Int) - 1) = (l0.length : Int) - 1 := wrapI (by omega) (by omega)
      clear AT at1
      go_wp2
      go_loopg [7] (l0.length + 1) (fun gg s7 w2 => ∃ (ii : Nat) (T : Nat → Nat → Int), ii ≤ l0.length ∧ ii ≤ gg ∧ s7 = .int .i64 ((ii : Int) - 1) ∧ Aside (Tab w2 g (.slice (some ⟨g, 0, none⟩) nn nn) nn nn m f T) ∧ Aside (Below w.heap.size w w2) ∧ Aside (done l0 l1 ii l1.length T))
      case atStart => exact ⟨l0.length, _, Nat.le_refl _, by omega, by go_num, AT1.out, AB.out, done_start l0 l1⟩
      case round =>
        obtain ⟨ii, T, hii, hg2, e7, AT2, AB2, AD⟩ := hrel
        clear AT1 AB
        by_cases hpos : 0 < ii
        · obtain ⟨i, rfl⟩ : ∃ i, ii = i + 1 := ⟨ii - 1, by omega⟩
          rw [show (((i + 1 : Nat) : Int) - 1) = (i : Int) by omega] at e7
          subst e7
          have hgz : (i : Int) ≥ 0 := by omega
          have hwm1 : IntKind.i64.wrap ((l1.length : Int) - 1) = (l1.length : Int) - 1 := wrapI (by omega) (by omega)
          go_wp2
          go_loopg [8] (l1.length + 1) (fun gg s8 w3 => ∃ (jj : Nat) (T : Nat → Nat → Int), jj ≤ l1.length ∧ jj ≤ gg ∧ s8 = .int .i64 ((jj : Int) - 1) ∧ Aside (Tab w3 g (.slice (some ⟨g, 0, none⟩) nn nn) nn nn m f T) ∧ Aside (Below w.heap.size w w3) ∧ Aside (done l0 l1 (i + 1) jj T))
          case atStart => exact ⟨l1.length, T, Nat.le_refl _, by omega, by go_num, AT2.out, AB2.out, fun i j hi hj hc => AD.out i j hi hj (by omega)⟩
          case round =>
            obtain ⟨jj, T3, hjj, hg3, e8, AT3, AB3, AD3⟩ := hrel
            clear AT2 AB2 AD
            by_cases hposj : 0 < jj
            · obtain ⟨j, rfl⟩ : ∃ j, jj = j + 1 := ⟨jj - 1, by omega⟩
              rw [show (((j + 1 : Nat) : Int) - 1) = (j : Int) by omega] at e8
              subst e8
              have hhz : (j : Int) ≥ 0 := by omega
              obtain ⟨i1, hi1⟩ : ∃ i1, i1 = i + 1 := ⟨_, rfl⟩
              obtain ⟨j1, hj1⟩ : ∃ j1, j1 = j + 1 := ⟨_, rfl⟩
              have hwi1 : IntKind.i64.wrap ((i : Int) + 1) = (i1 : Int) := (wrapI (by omega) (by omega)).trans (by omega)
              have hwj1 : IntKind.i64.wrap ((j : Int) + 1) = (j1 : Int) := (wrapI (by omega) (by omega)).trans (by omega)
              have hN := HNN.out
              have hM := HM.out
              have hiz : (0 : Int) ≤ (i : Int) := by omega
              have hjz : (0 : Int) ≤ (j : Int) := by omega
              have hi1z : (0 : Int) ≤ (i1 : Int) := by omega
              have hj1z : (0 : Int) ≤ (j1 : Int) := by omega
              have hin : (i : Int) < (nn : Int) := by omega
              have hi1n : (i1 : Int) < (nn : Int) := by omega
              have hjm : (j : Int) < (m : Int) := by omega
              have hj1m : (j1 : Int) < (m : Int) := by omega
              have hinn : i < nn := by omega
              have hi1nn : i1 < nn := by omega
              have hjmm : j < m := by omega
              have hj1mm : j1 < m := by omega
              have t1 := (AT3.out.top hi1nn).1
              have t0 := (AT3.out.top hinn).1
              have p1 := (AT3.out.cell hi1nn hjmm).1
              have p2 := (AT3.out.cell hinn hj1mm).1
              have p3 := (AT3.out.cell hi1nn hj1mm).1
              have p4 := AT3.out.cell hinn hjmm
              have v1 : T3 i1 j = lv l0 l1 i1 j := AD3.out i1 j (by omega) (by omega) (.inl (by omega))
              have v2 : T3 i j1 = lv l0 l1 i j1 := AD3.out i j1 (by omega) (by omega) (.inr (.inr ⟨rfl, by omega⟩))
              have v3' : T3 i1 j1 = lv l0 l1 i1 j1 := AD3.out i1 j1 (by omega) (by omega) (.inl (by omega))
              have hlv3 := lv_nonneg l0 l1 i1 j1
              have hlv4 := lv_le l0 l1 i1 j1
              unfold rowV at t0 t1
              rw [v1] at p1
              rw [v2] at p2
              rw [v3'] at p3
              have hin0 : i < l0.length := by omega
              have hjn1 : j < l1.length := by omega
              obtain ⟨a0, rfl, c0'⟩ := Kd.at_string HR0.out (i : Int) hiz (by omega)
              obtain ⟨a1, rfl, c1'⟩ := Kd.at_string HR1.out (j : Int) hjz (by omega)
              have hx0 : rdOf ByteArray.empty l0 (i : Int) = l0[i] := by
                show l0.getD ((i : Int)).toNat _ = _
                rw [Int.toNat_natCast, List.getD_eq_getElem?_getD, List.getElem?_eq_getElem hin0, Option.getD_some]
              have hx1 : rdOf ByteArray.empty l1 (j : Int) = l1[j] := by
                show l1.getD ((j : Int)).toNat _ = _
                rw [Int.toNat_natCast, List.getD_eq_getElem?_getD, List.getElem?_eq_getElem hjn1, Option.getD_some]
              rw [hx0, Int.toNat_natCast] at c0'
              rw [hx1, Int.toNat_natCast] at c1'
              have cw0 := c0'
              have cw1 := c1'
              have hii1 : i1 ≠ i := by omega
              have hd3 := v3'
              replace c0' := (AB3.out.cell (World.block_lt_of_cell? w _ c0')).trans c0'
              replace c1' := (AB3.out.cell (World.block_lt_of_cell? w _ c1')).trans c1'
              have hsame := lv_same l0 l1 i j hin0 hjn1
              have hother := lv_other l0 l1 i j hin0 hjn1
              rw [← hi1, ← hj1] at hsame hother
              have HSAME := Lib.hid hsame
              have HOTHER := Lib.hid hother
              have HI1 := Lib.hid hi1
              have HJ1 := Lib.hid hj1
              have hi0l : (i : Int) < (l0.length : Int) := by omega
              have hj0l : (j : Int) < (l1.length : Int) := by omega
              have hwsum : IntKind.i64.wrap (1 + lv l0 l1 i1 j1) = 1 + lv l0 l1 i1 j1 := wrapI (by omega) (by omega)
              clear hsame hother hx0 hx1 v1 v2 v3' hN hM hi1 hj1 hlv3 hlv4
              generalize lv l0 l1 i1 j = p at p1 HSAME HOTHER
              generalize lv l0 l1 i j1 = q at p2 HSAME HOTHER
              generalize lv l0 l1 i1 j1 = d at p3 HSAME HOTHER hwsum hd3
              generalize l0[i] = x at c0' cw0 HSAME HOTHER
              generalize l1[j] = y at c1' cw1 HSAME HOTHER
              obtain ⟨e0, he0⟩ : ∃ e0, (if p < q then q else p) = e0 := ⟨_, rfl⟩
              have hee : e0 = max p q := by
                rw [← he0]
                split <;> omega
              have HEE := Lib.hid hee
              clear hee
              have tf := p4.2
              have tc := p4.1
              go_wp2
              go_still_tail 23, (by kernel_rfl)
              repeat still_step
              change wpList _ _ _ _ _ wr.drew
              have tc2 : wr.drew.cell? ⟨f i, j, none⟩ = _ := tc
              have tf2 : wr.drew.frozen? ⟨f i, j, none⟩ = false := tf
              go_wp2
              have AT4 := Lib.hid ((AT3.out.store hinn hjmm e0).below (show Below (wr.setCell ⟨f i, j, none⟩ (.int .i64 e0)).heap.size _ (wr.setCell ⟨f i, j, none⟩ (.int .i64 e0)).drew from below_drew1 (Below.refl _ _)))
              have AB4 := Lib.hid (show Below w.heap.size w (wr.setCell ⟨f i, j, none⟩ (.int .i64 e0)).drew from (below_set AB3.out (by rw [← HG0.out]; exact (AT3.out.row i hinn).1)).drew)
              have AD4 := Lib.hid (done_junk AD3.out hjn1 e0)
              generalize (wr.setCell ⟨f i, j, none⟩ (.int .i64 e0)).drew = W4 at AT4 AB4 ⊢
              have c04 : W4.cell? (a0.add i) = some (.string x) := (AB4.out.cell (World.block_lt_of_cell? w _ cw0)).trans cw0
              have c14 : W4.cell? (a1.add j) = some (.string y) := (AB4.out.cell (World.block_lt_of_cell? w _ cw1)).trans cw1
              clear tc2 tf2 tc tf t1 t0 p1 p2 p3 p4 AT3 AB3 AD3 he0
              have hK0 : W4.drew.cell? (a0.add i) = some (.string x) ∧ W4.drew.cell? (a1.add j) = some (.string y) ∧ Below W4.heap.size W4 W4.drew := ⟨c04, c14, below_drew1 (Below.refl _ _)⟩
              by_cases hxy : x = y
              · subst hxy
                have he : (x.toList == x.toList) = true := beq_self_eq_true _
                go_wp2
                go_region_held3 (fun w' => w'.cell? (a0.add i) = some (.string x) ∧ w'.cell? (a1.add j) = some (.string x) ∧ Below W4.heap.size W4 w') (with_reducible first | assumption) ((fail))
                rename_i hHeld5
                clear hHeld5 hK0
                generalize hWe5 : World.drew W4 = W5
                have AT5 := Lib.hid (AT4.out.below (show Below W4.heap.size W4 W5 by rw [← hWe5]; exact below_drew1 (Below.refl _ _)))
                have AB5 := Lib.hid (show Below w.heap.size w W5 by rw [← hWe5]; exact AB4.out.drew)
                clear hWe5 c04 c14 AT4 AB4
                have hval : d + 1 = lv l0 l1 i j := by have := (HSAME.out (by trivial)).1; omega
                have HVAL := Lib.hid hval
                clear hval
                have t15 := (AT5.out.top hi1nn).1
                have t05 := (AT5.out.top hinn).1
                have p35 := (AT5.out.cell hi1nn hj1mm).1
                rw [upd_row _ _ _ _ _ _ hii1, hd3] at p35
                have p45 := AT5.out.cell hinn hjmm
                unfold rowV at t15 t05
                have tf := p45.2
                have tc := p45.1
                clear p45
                have hwd : IntKind.i64.wrap (d + 1) = d + 1 := by rw [Int.add_comm]; exact hwsum
                go_wp2
                go_still_tail 16, (by kernel_rfl)
                repeat still_step
                change wpList _ _ _ _ _ W5.drew
                have tc2 : W5.drew.cell? ⟨f i, j, none⟩ = _ := tc
                have tf2 : W5.drew.frozen? ⟨f i, j, none⟩ = false := tf
                go_wp2
                go_roundg j
                case measure => omega
                case rel => exact ⟨j, _, by omega, Nat.le_refl _, by go_num, (AT5.out.store hinn hjmm _).below (below_drew1 (Below.refl _ _)), (below_set AB5.out (by rw [← HG0.out]; exact (AT5.out.row i hinn).1)).drew, done_put AD4.out _ HVAL.out⟩
              · have he : (x.toList == y.toList) = false := beq_eq_false_iff_ne.mpr (fun h => hxy (YtcapmfgamdiijaaDoorX.toList_inj h))
                go_wp2
                go_region_held3 (fun w' => w'.cell? (a0.add i) = some (.string x) ∧ w'.cell? (a1.add j) = some (.string y) ∧ Below W4.heap.size W4 w') (with_reducible first | assumption) ((fail))
                rename_i hHeld5
                clear hHeld5 hK0
                generalize hWe5 : World.drew W4 = W5
                have AT5 := Lib.hid (AT4.out.below (show Below W4.heap.size W4 W5 by rw [← hWe5]; exact below_drew1 (Below.refl _ _)))
                have AB5 := Lib.hid (show Below w.heap.size w W5 by rw [← hWe5]; exact AB4.out.drew)
                clear hWe5 c04 c14 AT4 AB4
                have hval : e0 = lv l0 l1 i j := HEE.out.trans (HOTHER.out hxy).symm
                have HVAL := Lib.hid hval
                clear hval
                go_wp2
                go_roundg j
                case measure => omega
                case rel => exact ⟨j, _, by omega, Nat.le_refl _, by go_num, AT5.out, AB5.out, fun a b ha hb hc => by
                  by_cases eab : a = i ∧ b = j
                  · rw [eab.1, eab.2]
                    unfold upd
                    rw [if_pos ⟨rfl, rfl⟩]
                    exact HVAL.out
                  · exact AD4.out a b ha hb (by omega)⟩
            · have hj0 : jj = 0 := by omega
              subst hj0
              have hhz : ¬ (((0 : Nat) : Int) - 1 ≥ 0) := by omega
              subst e8
              have hwi : IntKind.i64.wrap ((i : Int) - 1) = (i : Int) - 1 := wrapI (by omega) (by omega)
              go_wp2
              go_roundg i
              case measure => omega
              case rel => exact ⟨i, T3, by omega, Nat.le_refl _, by go_num, AT3.out, AB3.out, fun a b ha hb hc => AD3.out a b ha hb (by omega)⟩
        · subst e7
          have hgb : decide ((ii : Int) - 1 ≥ 0) = false := decide_eq_false (by omega)
          have hgz : ¬ ((ii : Int) - 1 ≥ 0) := by omega
          have hi0 : ii = 0 := by omega
          subst hi0
          have HTZ : Tab wr g (.slice (some ⟨g, 0, none⟩) nn nn) nn nn m f (lv l0 l1) := AT2.out.congr fun i j hi hj => AD.out i j (by have := HNN.out; omega) (by have := HM.out; omega) (.inl (Nat.zero_le _))
          have HZ := Lib.hid HTZ
          clear HTZ AT2 AD
          go_wp2
          go_ret
          have HN2 := HNN.out
          have HM2 := HM.out
          have hz := HZ.out.toS (by omega)
          refine ⟨_, rfl, ?_, AB2.out⟩
          rw [← HN2, ← HM2]
          exact Kd.S_lower hz (Nat.le_of_eq HG0.out.symm)
end Go.Proofs.YtcapmfgamdiijaaDoor.PX.X

namespace Go.Proofs.YtcapmfgamdiijaaDoor.PX
open Go.RowKit Go.Proofs.YtcapmfgamdiijaaDoorW.PrintWords Go.Proofs.YtcapmfgamdiijaaDoorW.PrintLast Go.Proofs.YtcapmfgamdiijaaDoorW.PrintMore
attribute [local go_sem] max2_int min2_int max_two min_two max_three min_three max_four min_four   -- for this text's walks alone
set_option linter.unusedVariables false
set_option linter.unusedSimpArgs false

/-! ### impl_commons: function 139 -/
def impl_commons.f (l0 l1 : List ByteArray) : Option (List (List Int)) := if l0.length ≤ 1048576 then (if l1.length ≤ 1048576 then some (X.tabOf (l0.length + 1) (l1.length + 1) (X.lv l0 l1)) else none) else none
theorem impl_commons.calls (A0 : Option Addr) (c0 : Nat) (l0 : List ByteArray) (A1 : Option Addr) (c1 : Nat) (l1 : List ByteArray) (r : List (List Int)) (w : World) (hr0 : Kd.C Kd.string w A0 l0.length l0) (hc0 : l0.length ≤ c0) (hr1 : Kd.C Kd.string w A1 l1.length l1) (hc1 : l1.length ≤ c1) (h : impl_commons.f l0 l1 = some r) :
  Calls Tryd.prog 139 #[.slice A0 l0.length c0, .slice A1 l1.length c1] w fun e w' => ∃ v0_ : Value, e = .returned (v0_) ∧ Kd.S (Kd.slice 2 (Kd.int .i64)) 153 w' w.heap.size (fun _ => True) v0_ r ∧ Below w.heap.size w w' := by
 unfold impl_commons.f at h
 by_cases h1 : l0.length ≤ 1048576
 ·
  rw [if_pos h1] at h
  by_cases h2 : l1.length ≤ 1048576
  ·
   rw [if_pos h2] at h
   obtain rfl := Option.some.inj h
   exact X.commons_calls A0 c0 l0 A1 c1 l1 w hr0 hr1 h1 h2
  ·
   rw [if_neg h2] at h
   cases h
 ·
  rw [if_neg h1] at h
  cases h

end Go.Proofs.YtcapmfgamdiijaaDoor.PX
