/- Texts of this claim set one behind another by wip/bundle.py: XDecC, PXf64. -/
import Derived.Test.YtpnoghcdfbmpoaaGreatDoorBLT33
import Derived.Test.YtpnoghcdfbmpoaaGreatDoorBLT28
import Derived.Test.YtpnoghcdfbmpoaaGreatDoorBLT15
import Derived.Test.YtpnoghcdfbmpoaaGreatDoorBLT29
import Derived.Test.YtpnoghcdfbmpoaaGreatDoorBLT16
import Derived.Test.YtpnoghcdfbmpoaaGreatDoorBLT27
import Derived.Test.YtpnoghcdfbmpoaaGreatDoorBLT36
import Derived.Test.YtpnoghcdfbmpoaaGreatDoorBLT10
import Derived.Deep.RegionHeld3
import Derived.Test.YtpnoghcdfbmpoaaGreatDoorBLT9
namespace Go.Proofs.YtpnoghcdfbmpoaaGreatDoor.PX.X
open Go Go.RowKit Go.Lib Go.Proofs.YtpnoghcdfbmpoaaGreatDoorW.PrintWords Go.Proofs.YtpnoghcdfbmpoaaGreatDoor.PX
set_option linter.unusedVariables false
set_option linter.unusedSimpArgs false
abbrev CmT := ByteArray × List ByteArray × Int × ByteArray
def trimL (s : ByteArray) : ByteArray := (strings_TrimSuffix.f s ⟨#[10]⟩).getD s
def nameW (s : ByteArray) : ByteArray := cutA 32 (trimL s)
def restW (s : ByteArray) : ByteArray := cutB 32 (trimL s)
def decStep (c : CmT) (s : ByteArray) : CmT :=
 if nameW s = ⟨#[116, 114, 101, 101]⟩ then (restW s, c.2.1, c.2.2.1, c.2.2.2)
 else if nameW s = ⟨#[112, 97, 114, 101, 110, 116]⟩ then (c.1, c.2.1 ++ [restW s], c.2.2.1, c.2.2.2)
 else if nameW s = ⟨#[116, 105, 109, 101]⟩ then (c.1, c.2.1, parV (restW s).data.toList, c.2.2.2)
 else if nameW s = ⟨#[110, 111, 116, 101]⟩ then (c.1, c.2.1, c.2.2.1, restW s) else c
def decL (l : List ByteArray) : CmT := l.foldl decStep (⟨#[]⟩, [], 0, ⟨#[]⟩)
theorem trim_f (s : ByteArray) (h : s.size ≤ 9223372036854775806) : strings_TrimSuffix.f s ⟨#[10]⟩ = some (trimL s) ∧ (trimL s).size ≤ s.size := by
 have key : ∃ t, strings_TrimSuffix.f s ⟨#[10]⟩ = some t ∧ t.size ≤ s.size := by
  unfold strings_TrimSuffix.f stringslite_TrimSuffix.f stringslite_HasSuffix.f
  have hz : (⟨#[10]⟩ : ByteArray).size = 1 := rfl
  rw [hz]
  by_cases h1 : (s.size : Int) ≥ ((1 : Nat) : Int)
  · have hw : wrap64 ((s.size : Int) - ((1 : Nat) : Int)) = (s.size : Int) - 1 := YtpnoghcdfbmpoaaGreatDoorX.wrap_in zq7 zq7
    rw [if_pos h1, hw, if_pos zq7, if_pos zq7, Option.bind_some]
    by_cases h2 : ((s.extract ((s.size : Int) - 1).toNat s.size).toList == (⟨#[10]⟩ : ByteArray).toList) = true
    · rw [if_pos h2, if_pos zq7, if_pos zq7]
      exact ⟨_, rfl, by rw [ByteArray.size_extract]; omega⟩
    · rw [if_neg h2]
      exact ⟨_, rfl, Nat.le_refl _⟩
  · rw [if_neg h1]
    exact ⟨_, rfl, Nat.le_refl _⟩
 obtain ⟨t, h1, h2⟩ := key
 unfold trimL
 rw [h1]
 exact ⟨rfl, h2⟩
theorem rest_size (s : ByteArray) (h : s.size ≤ 9223372036854775806) : (restW s).size ≤ s.size := by
 have h1 := (trim_f s h).2
 unfold restW cutB
 rw [show ([32] : List UInt8) = (⟨#[32]⟩ : ByteArray).data.toList from rfl]
 rcases Lib.indexB_cases (trimL s) ⟨#[32]⟩ with hix | ⟨i, hix, hroom⟩
 · rw [(Lib.cutB_miss (trimL s) ⟨#[32]⟩ hix).2.1]
   exact Nat.zero_le _
 · rw [(Lib.cutB_hit (trimL s) ⟨#[32]⟩ i hix).2.1, ByteArray.size_extract]
   omega
theorem cutW_calls (x : ByteArray) (h : (trimL x).size ≤ 9223372036854775806) (w : World) :
 Calls Tryz.prog 94 #[.string (trimL x), .string ⟨#[32]⟩] w fun e w' => e = .returned (.tuple #[.string (nameW x), .string (restW x), .bool (Lib.cut (trimL x).data.toList [32]).2.2]) ∧ ∃ n, w' = w.drewN n := cut_calls (trimL x) 32 h w
theorem decL_snoc (l : List ByteArray) (s : ByteArray) : decL (l ++ [s]) = decStep (decL l) s := by
 unfold decL
 rw [List.foldl_append]
 rfl
theorem R_off {α : Type} {d : Kd α} {e : Nat} {w : World} {base : Nat} {v : Value} {xs : List α} {g j : Nat} (h : d.R e w base (fun _ => True) v xs) (hg : g < base) (u : Value) : d.R e (w.setCell ⟨g, j, none⟩ u) base (fun _ => True) v xs :=
 Kd.R_mono (Kd.R_far (p := ⟨g, j, none⟩) (Kd.R_mono (ok' := fun k => base ≤ k) (Kd.R_bound h) (fun _ hk => hk.2.1)) (fun k hk => by show k ≠ g; omega) u) (fun _ _ => trivial)
theorem keep_cell {w W : World} {g : Nat} (h : KeepBut w W g none) (j : Nat) (v : Value) : KeepBut w (W.setCell ⟨g, j, none⟩ v) g none :=
 ⟨by have h1 := h.1; have h2 : (W.setCell ⟨g, j, none⟩ v).heap.size = W.heap.size := by simp [World.setCell]
     omega, fun i hi hne hr => (Below.heap_setCell W ⟨g, j, none⟩ v i hne).trans (h.2 i hi hne hr)⟩
theorem keep_to {w W V : World} {g : Nat} (h : KeepBut w W g none) (hb : Below w.heap.size W V) : KeepBut w V g none :=
 ⟨Nat.le_trans h.1 hb.size, fun i hi hne hr => (hb.block i hi).trans (h.2 i hi hne hr)⟩
structure CmIn (w W3 W : World) (gc : Nat) (c : CmT) (vp : Value) (n : Nat) : Prop where
 blk : W.heap[gc]? = some (.cells #[.string c.1, vp, .int .i64 c.2.2.1, .string c.2.2.2] 60 (0, 0))
 own : Kd.R Kd.string 9 W W3.heap.size (fun _ => True) vp c.2.1
 keep : KeepBut W3 W gc none
 below : Below w.heap.size w W
 len : c.2.1.length ≤ n
theorem CmIn.same {w W3 W V : World} {gc n : Nat} {c : CmT} {vp : Value} (h : CmIn w W3 W gc c vp n) (hb : Below W.heap.size W V) (hg : gc < W.heap.size) : CmIn w W3 V gc c vp n :=
 ⟨(hb.block gc hg).trans h.blk, Kd.R_below h.own hb, keep_to h.keep (hb.mono h.keep.1), h.below.trans (hb.mono h.below.size), h.len⟩
theorem keepC {gc : Nat} {a b c d : Value} {w V : World} (h : w.cell? ⟨gc, 0, none⟩ = some a ∧ w.cell? ⟨gc, 1, none⟩ = some b ∧ w.cell? ⟨gc, 2, none⟩ = some c ∧ w.cell? ⟨gc, 3, none⟩ = some d) (hb : Below w.heap.size w V) : V.cell? ⟨gc, 0, none⟩ = some a ∧ V.cell? ⟨gc, 1, none⟩ = some b ∧ V.cell? ⟨gc, 2, none⟩ = some c ∧ V.cell? ⟨gc, 3, none⟩ = some d :=
 ⟨(hb.cell (World.block_lt_of_cell? w _ h.1)).trans h.1, (hb.cell (World.block_lt_of_cell? w _ h.2.1)).trans h.2.1, (hb.cell (World.block_lt_of_cell? w _ h.2.2.1)).trans h.2.2.1, (hb.cell (World.block_lt_of_cell? w _ h.2.2.2)).trans h.2.2.2⟩
theorem cell_set {g q i j : Nat} {W : World} {v u : Value} (h : q ≠ g) (hc : W.cell? ⟨q, i, none⟩ = some v) : (W.setCell ⟨g, j, none⟩ u).cell? ⟨q, i, none⟩ = some v := by
 have hh := Below.heap_setCell W ⟨g, j, none⟩ u q h
 unfold World.cell? at hc ⊢
 simp only [hh]
 exact hc
theorem keepS {gc gr : Nat} (hne : gc ≠ gr) {a b c d v0 v1 v2 v3 : Value} {w : World} (h : w.cell? ⟨gc, 0, none⟩ = some a ∧ w.cell? ⟨gc, 1, none⟩ = some b ∧ w.cell? ⟨gc, 2, none⟩ = some c ∧ w.cell? ⟨gc, 3, none⟩ = some d) :
 ((((w.setCell ⟨gr, 0, none⟩ v0).setCell ⟨gr, 1, none⟩ v1).setCell ⟨gr, 2, none⟩ v2).setCell ⟨gr, 3, none⟩ v3).cell? ⟨gc, 0, none⟩ = some a ∧ ((((w.setCell ⟨gr, 0, none⟩ v0).setCell ⟨gr, 1, none⟩ v1).setCell ⟨gr, 2, none⟩ v2).setCell ⟨gr, 3, none⟩ v3).cell? ⟨gc, 1, none⟩ = some b ∧ ((((w.setCell ⟨gr, 0, none⟩ v0).setCell ⟨gr, 1, none⟩ v1).setCell ⟨gr, 2, none⟩ v2).setCell ⟨gr, 3, none⟩ v3).cell? ⟨gc, 2, none⟩ = some c ∧ ((((w.setCell ⟨gr, 0, none⟩ v0).setCell ⟨gr, 1, none⟩ v1).setCell ⟨gr, 2, none⟩ v2).setCell ⟨gr, 3, none⟩ v3).cell? ⟨gc, 3, none⟩ = some d :=
 ⟨cell_set hne (cell_set hne (cell_set hne (cell_set hne h.1))), cell_set hne (cell_set hne (cell_set hne (cell_set hne h.2.1))), cell_set hne (cell_set hne (cell_set hne (cell_set hne h.2.2.1))), cell_set hne (cell_set hne (cell_set hne (cell_set hne h.2.2.2)))⟩
set_option maxHeartbeats 2000000 in
set_option maxRecDepth 8000 in
theorem decode_calls (k : Nat) (data : ByteArray) (L : List ByteArray) (cf : Int) (txt : ByteArray) (w : World) (hL : impl_linesOf.f data = some L) (hn : L.length ≤ 1048576) (hz : ∀ x ∈ L, x.size ≤ 1048576) (hcf : impl_CommitFault.f k (decL L).1 (decL L).2.1 (decL L).2.2.1 (decL L).2.2.2 = some cf) (hc4 : cf = 0 ∨ cf = 1 ∨ cf = 2 ∨ cf = 3 ∨ cf = 5) (htx : cf = 0 → impl_commitText.f k (decL L).1 (decL L).2.1 (decL L).2.2.1 (decL L).2.2.2 = some txt) (hG : Gt w) :
 Calls Tryz.prog 64 #[.string data] w fun e w' => ∃ v, e = .returned (.tuple #[.agg #[.string (decL L).1, v, .int .i64 (decL L).2.2.1, .string (decL L).2.2.2], .bool (decide (cf = 0 ∧ txt = data))]) ∧ Kd.R Kd.string 9 w' w.heap.size (fun _ => True) v (decL L).2.1 ∧ Below w.heap.size w w' := by
 obtain ⟨c, hD⟩ : ∃ D, D = decL L := ⟨_, rfl⟩
 obtain ⟨b, hB⟩ : ∃ b, b = decide (cf = 0 ∧ txt = data) := ⟨_, rfl⟩
 rw [← hD] at hcf htx ⊢
 rw [← hB]
 have HDL := Lib.hid hD
 have HB := Lib.hid hB
 clear hD hB
 have HL := Lib.hid hL
 have HZ := Lib.hid hz
 have HCF := Lib.hid hcf
 have HTX := Lib.hid htx
 have HG := Lib.hid hG
 have HC4 := Lib.hid hc4
 clear hL hz hcf htx hG hc4
 go_enter Tryz.func64, Tryz.ntmps64
 go_wp2_with (first | ((with_reducible refine gate_dst (N := 2) rfl ?_); refine box_event ?hg (N := 2) ?hd (cs := #[.string (⟨#[]⟩ : ByteArray), .slice none 0 0, .int .i64 0, .string (⟨#[]⟩ : ByteArray)]) (t := 60) ?hr ?_; (case hd => rfl); (case hg => rfl); (case hr => first | (go_simp; done) | (go_simp; rfl)); intro gr hgr w1 hbox hb1; have X1 := Lib.hid hbox; have HB1 := Lib.hid hb1; have HGR := Lib.hid hgr; clear hbox hb1 hgr) | ((with_reducible refine gate_dst (N := 4) rfl ?_); refine box_event ?hg (N := 4) ?hd (cs := #[.string (⟨#[]⟩ : ByteArray), .slice none 0 0, .int .i64 0, .string (⟨#[]⟩ : ByteArray)]) (t := 60) ?hr ?_; (case hd => rfl); (case hg => rfl); (case hr => first | (go_simp; done) | (go_simp; rfl)); intro gc hgc w2 hbox hb2; have c0 : w2.cell? ⟨gc, 0, none⟩ = some (.string (⟨#[]⟩ : ByteArray)) := (blk_cell hbox 0).trans rfl; have c1 : w2.cell? ⟨gc, 1, none⟩ = some (.slice none 0 0) := (blk_cell hbox 1).trans rfl; have c2 : w2.cell? ⟨gc, 2, none⟩ = some (.int .i64 0) := (blk_cell hbox 2).trans rfl; have c3 : w2.cell? ⟨gc, 3, none⟩ = some (.string (⟨#[]⟩ : ByteArray)) := (blk_cell hbox 3).trans rfl; have f0 := blk_frozen hbox 0; have f1 := blk_frozen hbox 1; have f2 := blk_frozen hbox 2; have f3 := blk_frozen hbox 3; have X2 := Lib.hid hbox; have HB2 := Lib.hid hb2; have HGC := Lib.hid hgc; clear hbox hb2 hgc) | (go_at_call 93; (with_reducible refine (impl_linesOf.calls data L _ HL.out).mono ?_); rintro e W3 ⟨vL, rfl, hoL, hbL⟩; obtain ⟨AL, cL, rfl⟩ := Kd.R_slice hoL; have OL := Lib.hid hoL; have BL := Lib.hid hbL; clear hoL hbL c0 c1 c2 c3 f0 f1 f2 f3))
 have hX := blk_set (blk_set (blk_set (blk_set X2.out 0 (.string (⟨#[]⟩ : ByteArray))) 1 (.slice none 0 0)) 2 (.int .i64 0)) 3 (.string (⟨#[]⟩ : ByteArray))
 have hgr1 : gr < w1.heap.size := (Array.getElem?_eq_some_iff.1 X1.out).1
 have hgc2 : gc < w2.heap.size := (Array.getElem?_eq_some_iff.1 X2.out).1
 have hgrc : gr ≠ gc := by have := HGC.out; omega
 have hge : w.heap.size ≤ gc := by have h1 := HGC.out; have h2 := HB1.out.size; omega
 have hgre : w.heap.size ≤ gr := Nat.le_of_eq HGR.out.symm
 have hX1 : ((((w2.setCell ⟨gc, 0, none⟩ (.string (⟨#[]⟩ : ByteArray))).setCell ⟨gc, 1, none⟩ (.slice none 0 0)).setCell ⟨gc, 2, none⟩ (.int .i64 0)).setCell ⟨gc, 3, none⟩ (.string (⟨#[]⟩ : ByteArray))).heap[gr]? = some (.cells #[.string (⟨#[]⟩ : ByteArray), .slice none 0 0, .int .i64 0, .string (⟨#[]⟩ : ByteArray)] 60 (0, 0)) :=
  (Below.heap_setCell _ ⟨gc, 3, none⟩ _ gr hgrc).trans ((Below.heap_setCell _ ⟨gc, 2, none⟩ _ gr hgrc).trans ((Below.heap_setCell _ ⟨gc, 1, none⟩ _ gr hgrc).trans ((Below.heap_setCell _ ⟨gc, 0, none⟩ _ gr hgrc).trans (blk_below X1.out HB2.out))))
 have hbw : Below w.heap.size w ((((w2.setCell ⟨gc, 0, none⟩ (.string (⟨#[]⟩ : ByteArray))).setCell ⟨gc, 1, none⟩ (.slice none 0 0)).setCell ⟨gc, 2, none⟩ (.int .i64 0)).setCell ⟨gc, 3, none⟩ (.string (⟨#[]⟩ : ByteArray))) := below_set (below_set (below_set (below_set (HB1.out.trans (HB2.out.mono HB1.out.size)) hge) hge) hge) hge
 have hlt0 : gc < ((((w2.setCell ⟨gc, 0, none⟩ (.string (⟨#[]⟩ : ByteArray))).setCell ⟨gc, 1, none⟩ (.slice none 0 0)).setCell ⟨gc, 2, none⟩ (.int .i64 0)).setCell ⟨gc, 3, none⟩ (.string (⟨#[]⟩ : ByteArray))).heap.size := (Array.getElem?_eq_some_iff.1 hX).1
 generalize ((((w2.setCell ⟨gc, 0, none⟩ (.string (⟨#[]⟩ : ByteArray))).setCell ⟨gc, 1, none⟩ (.slice none 0 0)).setCell ⟨gc, 2, none⟩ (.int .i64 0)).setCell ⟨gc, 3, none⟩ (.string (⟨#[]⟩ : ByteArray))) = V0 at OL BL hX hX1 hbw hlt0
 have hgc3 : gc < W3.heap.size := Nat.lt_of_lt_of_le hlt0 BL.out.size
 have HIN : Hid (CmIn w W3 W3 gc (decL (L.take 0)) (.slice none 0 0) 0) := Lib.hid ⟨blk_below hX BL.out, Kd.R_nil _ _ _ _ _, ⟨Nat.le_refl _, fun _ _ _ _ => rfl⟩, hbw.trans (BL.out.mono hbw.size), Nat.le_refl _⟩
 have HGR3 := Lib.hid (blk_below hX1 BL.out)
 have HCL := Lib.hid (Kd.R_reads' OL.out).2.2
 have HAD : Hid (∀ ad, AL = some ad → 0 < L.length → ad.block ≠ gc) := Lib.hid (fun ad h1 h2 => by
  rcases (R_str_own OL.out).2 with ⟨_, h⟩ | ⟨g, cap, cur, h, hb, _⟩
  · omega
  · rw [h1] at h
    injection h with h
    injection h with h
    rw [h]
    show g ≠ gc
    omega)
 have HGE := Lib.hid hge
 have HG3 := Lib.hid hgc3
 have HGRC := Lib.hid hgrc
 have HGRE := Lib.hid hgre
 have HWB := Lib.hid (HIN.out.below.size)
 clear hX hX1 hbw hlt0 X1 X2 HB1 HB2 HGR HGC hgr1 hgc2 hgrc hge hgc3 hgre OL BL
 go_loopg [14] L.length (fun gg s14 wr => ∃ (kk : Nat) (vp : Value), kk ≤ L.length ∧ L.length - kk ≤ gg ∧ s14 = .int .i64 kk ∧ Aside (CmIn w W3 wr gc (decL (L.take kk)) vp kk))
 case atStart => exact ⟨0, _, Nat.zero_le _, by omega, rfl, HIN.out⟩
 case round =>
  obtain ⟨kk, vp, hkk, hg, rfl, AI⟩ := hrel
  clear HIN
  by_cases hlt : kk < L.length
  · have hltz : (kk : Int) < (L.length : Int) := by omega
    have hkz : (0 : Int) ≤ (kk : Int) := by omega
    have hC := Kd.C_keep ByteArray.empty HCL.out AI.out.keep HAD.out
    obtain ⟨ad, rfl, q0⟩ := Kd.at_string hC (kk : Int) hkz hltz
    have hx : rdOf ByteArray.empty L (kk : Int) = L[kk] := by
     show L.getD ((kk : Int)).toNat _ = _
     rw [Int.toNat_natCast, List.getD_eq_getElem?_getD, List.getElem?_eq_getElem hlt, Option.getD_some]
    have htk : decL (L.take (kk + 1)) = decStep (decL (L.take kk)) L[kk] := by
     rw [List.take_succ_eq_append_getElem hlt, decL_snoc]
    have hmem : L[kk] ∈ L := List.getElem_mem hlt
    rw [hx] at q0
    rw [Int.toNat_natCast] at q0
    clear hx hC
    generalize decL (L.take kk) = c at AI htk
    generalize L[kk] = x at q0 htk hmem
    have hxs := HZ.out x hmem
    obtain ⟨htr, hts⟩ := trim_f x zq7
    have hrs := rest_size x zq7
    have HTK := Lib.hid htk
    have HTR := Lib.hid htr
    have HRS := Lib.hid (show (restW x).size ≤ 281474976710656 by omega)
    have HTS := Lib.hid (show (trimL x).size ≤ 9223372036854775806 by omega)
    clear htk hmem htr hts hrs hxs
    obtain ⟨nm, hnm⟩ : ∃ nm, nm = nameW x := ⟨_, rfl⟩
    have hstep : decStep c x = if nm = ⟨#[116, 114, 101, 101]⟩ then (restW x, c.2.1, c.2.2.1, c.2.2.2) else if nm = ⟨#[112, 97, 114, 101, 110, 116]⟩ then (c.1, c.2.1 ++ [restW x], c.2.2.1, c.2.2.2) else if nm = ⟨#[116, 105, 109, 101]⟩ then (c.1, c.2.1, parV (restW x).data.toList, c.2.2.2) else if nm = ⟨#[110, 111, 116, 101]⟩ then (c.1, c.2.1, c.2.2.1, restW x) else c := by rw [hnm]; rfl
    have HSTEP := Lib.hid hstep
    have HNM := Lib.hid hnm
    clear hstep hnm
    by_cases h0 : nm = ⟨#[116, 114, 101, 101]⟩
    · have HST : Hid (decStep c x = (restW x, c.2.1, c.2.2.1, c.2.2.2)) := Lib.hid (by rw [HSTEP.out, if_pos h0])
      have b0 : (nm.toList == ([116, 114, 101, 101] : List UInt8)) = true := by rw [h0, YtpnoghcdfbmpoaaGreatDoorX.toList_eq]; exact beq_self_eq_true _
      clear h0
      rw [HNM.out] at b0
      go_wp2_with (first | (go_at_call 95; (with_reducible refine (strings_TrimSuffix.calls x ⟨#[10]⟩ (trimL x) _ HTR.out).mono ?_); rintro e w4 ⟨rfl, ⟨nd, rfl⟩⟩) | (go_at_call 94; (with_reducible refine (cutW_calls x HTS.out _).mono ?_); rintro e W4 ⟨rfl, n2, hn2⟩; have hb4 : Below wr.heap.size wr W4 := zq22; have I4 := Lib.hid (CmIn.same AI.out hb4 (Nat.lt_of_lt_of_le HG3.out AI.out.keep.1)); have hb := I4.out.blk; have g0 : W4.cell? ⟨gc, 0, none⟩ = some (.string c.1) := (blk_cell hb 0).trans rfl; have g1 : W4.cell? ⟨gc, 1, none⟩ = some vp := (blk_cell hb 1).trans rfl; have g2 : W4.cell? ⟨gc, 2, none⟩ = some (.int .i64 c.2.2.1) := (blk_cell hb 2).trans rfl; have g3 : W4.cell? ⟨gc, 3, none⟩ = some (.string c.2.2.2) := (blk_cell hb 3).trans rfl; have f0 := blk_frozen hb 0; have f1 := blk_frozen hb 1; have f2 := blk_frozen hb 2; have f3 := blk_frozen hb 3; clear hn2 hb4 hb) | ((with_reducible refine gate_builtin (b := .append) (xs := #[.tmp 33, .tmp 35]) rfl ?_); at_builtin; refine Kd.R_append Kd.string (w0 := W4) W3.heap.size rfl (.tmp 33) (.tmp 35) 29 9 (.string ⟨#[]⟩) 16 rfl Tryz.underlying29 info9 rfl zq9 zq9 vp c.2.1 (restW x) [.string (restW x)] (fun _ => True) (fun _ => False) rfl rfl rfl (fun _ hk => hk.elim) (fun _ _ => trivial) I4.out.own (Below.refl _ _) I4.out.keep.1 (by have := I4.out.len; omega) ?_; intro v5 W5 ho5 hb5 hg5 hat5; obtain ⟨A5, c5, rfl⟩ := Kd.R_slice ho5; rw [show (c.2.1 ++ [restW x]).length = c.2.1.length + 1 from List.length_append] at ho5; have hb := (hb5.block gc HG3.out).trans I4.out.blk; have g0 : W5.cell? ⟨gc, 0, none⟩ = some (.string c.1) := (blk_cell hb 0).trans rfl; have g1 : W5.cell? ⟨gc, 1, none⟩ = some vp := (blk_cell hb 1).trans rfl; have f1 := blk_frozen hb 1; have I5 := Lib.hid (And.intro hb (And.intro ho5 hb5)); clear hb ho5 hb5 hg5 hat5) | (go_at_call 96; (with_reducible refine (parse_calls (restW x) HRS.out _ (HG.out.below I4.out.below)).mono ?_); rintro e W5 ⟨ev, rfl, hb5⟩; have I5 := Lib.hid (CmIn.same I4.out hb5 (Nat.lt_of_lt_of_le HG3.out I4.out.keep.1)); have hb := I5.out.blk; have g0 : W5.cell? ⟨gc, 0, none⟩ = some (.string c.1) := (blk_cell hb 0).trans rfl; have g1 : W5.cell? ⟨gc, 1, none⟩ = some vp := (blk_cell hb 1).trans rfl; have g2 : W5.cell? ⟨gc, 2, none⟩ = some (.int .i64 c.2.2.1) := (blk_cell hb 2).trans rfl; have f2 := blk_frozen hb 2; clear hb hb5))
      go_roundg (L.length - (kk + 1))
      case measure => omega
      case rel =>
       refine ⟨kk + 1, vp, by omega, Nat.le_refl _, by go_num, (show Aside _ from ?_)⟩
       rw [HTK.out, HST.out]
       exact ⟨blk_set I4.out.blk 0 (.string (restW x)), R_off I4.out.own HG3.out _, keep_cell I4.out.keep _ _, below_set I4.out.below HGE.out, Nat.le_succ_of_le I4.out.len⟩
    · skip
      by_cases h1 : nm = ⟨#[112, 97, 114, 101, 110, 116]⟩
      · have HST : Hid (decStep c x = (c.1, c.2.1 ++ [restW x], c.2.2.1, c.2.2.2)) := Lib.hid (by rw [HSTEP.out, if_neg h0, if_pos h1])
        have b0 : (nm.toList == ([116, 114, 101, 101] : List UInt8)) = false := beq_eq_false_iff_ne.mpr (fun z => h0 (YtpnoghcdfbmpoaaGreatDoorX.toList_inj (z.trans zq18)))
        have b1 : (nm.toList == ([112, 97, 114, 101, 110, 116] : List UInt8)) = true := by rw [h1, YtpnoghcdfbmpoaaGreatDoorX.toList_eq]; exact beq_self_eq_true _
        clear h0 h1
        rw [HNM.out] at b0 b1
        go_wp2_with (first | (go_at_call 95; (with_reducible refine (strings_TrimSuffix.calls x ⟨#[10]⟩ (trimL x) _ HTR.out).mono ?_); rintro e w4 ⟨rfl, ⟨nd, rfl⟩⟩) | (go_at_call 94; (with_reducible refine (cutW_calls x HTS.out _).mono ?_); rintro e W4 ⟨rfl, n2, hn2⟩; have hb4 : Below wr.heap.size wr W4 := zq22; have I4 := Lib.hid (CmIn.same AI.out hb4 (Nat.lt_of_lt_of_le HG3.out AI.out.keep.1)); have hb := I4.out.blk; have g0 : W4.cell? ⟨gc, 0, none⟩ = some (.string c.1) := (blk_cell hb 0).trans rfl; have g1 : W4.cell? ⟨gc, 1, none⟩ = some vp := (blk_cell hb 1).trans rfl; have g2 : W4.cell? ⟨gc, 2, none⟩ = some (.int .i64 c.2.2.1) := (blk_cell hb 2).trans rfl; have g3 : W4.cell? ⟨gc, 3, none⟩ = some (.string c.2.2.2) := (blk_cell hb 3).trans rfl; have f0 := blk_frozen hb 0; have f1 := blk_frozen hb 1; have f2 := blk_frozen hb 2; have f3 := blk_frozen hb 3; clear hn2 hb4 hb) | ((with_reducible refine gate_builtin (b := .append) (xs := #[.tmp 33, .tmp 35]) rfl ?_); at_builtin; refine Kd.R_append Kd.string (w0 := W4) W3.heap.size rfl (.tmp 33) (.tmp 35) 29 9 (.string ⟨#[]⟩) 16 rfl Tryz.underlying29 info9 rfl zq9 zq9 vp c.2.1 (restW x) [.string (restW x)] (fun _ => True) (fun _ => False) rfl rfl rfl (fun _ hk => hk.elim) (fun _ _ => trivial) I4.out.own (Below.refl _ _) I4.out.keep.1 (by have := I4.out.len; omega) ?_; intro v5 W5 ho5 hb5 hg5 hat5; obtain ⟨A5, c5, rfl⟩ := Kd.R_slice ho5; rw [show (c.2.1 ++ [restW x]).length = c.2.1.length + 1 from List.length_append] at ho5; have hb := (hb5.block gc HG3.out).trans I4.out.blk; have g0 : W5.cell? ⟨gc, 0, none⟩ = some (.string c.1) := (blk_cell hb 0).trans rfl; have g1 : W5.cell? ⟨gc, 1, none⟩ = some vp := (blk_cell hb 1).trans rfl; have f1 := blk_frozen hb 1; have I5 := Lib.hid (And.intro hb (And.intro ho5 hb5)); clear hb ho5 hb5 hg5 hat5) | (go_at_call 96; (with_reducible refine (parse_calls (restW x) HRS.out _ (HG.out.below I4.out.below)).mono ?_); rintro e W5 ⟨ev, rfl, hb5⟩; have I5 := Lib.hid (CmIn.same I4.out hb5 (Nat.lt_of_lt_of_le HG3.out I4.out.keep.1)); have hb := I5.out.blk; have g0 : W5.cell? ⟨gc, 0, none⟩ = some (.string c.1) := (blk_cell hb 0).trans rfl; have g1 : W5.cell? ⟨gc, 1, none⟩ = some vp := (blk_cell hb 1).trans rfl; have g2 : W5.cell? ⟨gc, 2, none⟩ = some (.int .i64 c.2.2.1) := (blk_cell hb 2).trans rfl; have f2 := blk_frozen hb 2; clear hb hb5))
        go_roundg (L.length - (kk + 1))
        case measure => omega
        case rel =>
         refine ⟨kk + 1, .slice A5 (c.2.1.length + 1) c5, by omega, Nat.le_refl _, by go_num, (show Aside _ from ?_)⟩
         rw [HTK.out, HST.out]
         have hk5 : KeepBut W3 W5 gc none := keep_to I4.out.keep I5.out.2.2
         exact ⟨blk_set I5.out.1 1 (.slice A5 (c.2.1.length + 1) c5), R_off I5.out.2.1 HG3.out _, keep_cell hk5 _ _, below_set (I4.out.below.trans (I5.out.2.2.mono HWB.out)) HGE.out, by rw [List.length_append, List.length_singleton]; exact Nat.succ_le_succ I4.out.len⟩
      · skip
        by_cases h2 : nm = ⟨#[116, 105, 109, 101]⟩
        · have HST : Hid (decStep c x = (c.1, c.2.1, parV (restW x).data.toList, c.2.2.2)) := Lib.hid (by rw [HSTEP.out, if_neg h0, if_neg h1, if_pos h2])
          have b0 : (nm.toList == ([116, 114, 101, 101] : List UInt8)) = false := beq_eq_false_iff_ne.mpr (fun z => h0 (YtpnoghcdfbmpoaaGreatDoorX.toList_inj (z.trans zq18)))
          have b1 : (nm.toList == ([112, 97, 114, 101, 110, 116] : List UInt8)) = false := beq_eq_false_iff_ne.mpr (fun z => h1 (YtpnoghcdfbmpoaaGreatDoorX.toList_inj (z.trans zq18)))
          have b2 : (nm.toList == ([116, 105, 109, 101] : List UInt8)) = true := by rw [h2, YtpnoghcdfbmpoaaGreatDoorX.toList_eq]; exact beq_self_eq_true _
          clear h0 h1 h2
          rw [HNM.out] at b0 b1 b2
          go_wp2_with (first | (go_at_call 95; (with_reducible refine (strings_TrimSuffix.calls x ⟨#[10]⟩ (trimL x) _ HTR.out).mono ?_); rintro e w4 ⟨rfl, ⟨nd, rfl⟩⟩) | (go_at_call 94; (with_reducible refine (cutW_calls x HTS.out _).mono ?_); rintro e W4 ⟨rfl, n2, hn2⟩; have hb4 : Below wr.heap.size wr W4 := zq22; have I4 := Lib.hid (CmIn.same AI.out hb4 (Nat.lt_of_lt_of_le HG3.out AI.out.keep.1)); have hb := I4.out.blk; have g0 : W4.cell? ⟨gc, 0, none⟩ = some (.string c.1) := (blk_cell hb 0).trans rfl; have g1 : W4.cell? ⟨gc, 1, none⟩ = some vp := (blk_cell hb 1).trans rfl; have g2 : W4.cell? ⟨gc, 2, none⟩ = some (.int .i64 c.2.2.1) := (blk_cell hb 2).trans rfl; have g3 : W4.cell? ⟨gc, 3, none⟩ = some (.string c.2.2.2) := (blk_cell hb 3).trans rfl; have f0 := blk_frozen hb 0; have f1 := blk_frozen hb 1; have f2 := blk_frozen hb 2; have f3 := blk_frozen hb 3; clear hn2 hb4 hb) | ((with_reducible refine gate_builtin (b := .append) (xs := #[.tmp 33, .tmp 35]) rfl ?_); at_builtin; refine Kd.R_append Kd.string (w0 := W4) W3.heap.size rfl (.tmp 33) (.tmp 35) 29 9 (.string ⟨#[]⟩) 16 rfl Tryz.underlying29 info9 rfl zq9 zq9 vp c.2.1 (restW x) [.string (restW x)] (fun _ => True) (fun _ => False) rfl rfl rfl (fun _ hk => hk.elim) (fun _ _ => trivial) I4.out.own (Below.refl _ _) I4.out.keep.1 (by have := I4.out.len; omega) ?_; intro v5 W5 ho5 hb5 hg5 hat5; obtain ⟨A5, c5, rfl⟩ := Kd.R_slice ho5; rw [show (c.2.1 ++ [restW x]).length = c.2.1.length + 1 from List.length_append] at ho5; have hb := (hb5.block gc HG3.out).trans I4.out.blk; have g0 : W5.cell? ⟨gc, 0, none⟩ = some (.string c.1) := (blk_cell hb 0).trans rfl; have g1 : W5.cell? ⟨gc, 1, none⟩ = some vp := (blk_cell hb 1).trans rfl; have f1 := blk_frozen hb 1; have I5 := Lib.hid (And.intro hb (And.intro ho5 hb5)); clear hb ho5 hb5 hg5 hat5) | (go_at_call 96; (with_reducible refine (parse_calls (restW x) HRS.out _ (HG.out.below I4.out.below)).mono ?_); rintro e W5 ⟨ev, rfl, hb5⟩; have I5 := Lib.hid (CmIn.same I4.out hb5 (Nat.lt_of_lt_of_le HG3.out I4.out.keep.1)); have hb := I5.out.blk; have g0 : W5.cell? ⟨gc, 0, none⟩ = some (.string c.1) := (blk_cell hb 0).trans rfl; have g1 : W5.cell? ⟨gc, 1, none⟩ = some vp := (blk_cell hb 1).trans rfl; have g2 : W5.cell? ⟨gc, 2, none⟩ = some (.int .i64 c.2.2.1) := (blk_cell hb 2).trans rfl; have f2 := blk_frozen hb 2; clear hb hb5))
          go_roundg (L.length - (kk + 1))
          case measure => omega
          case rel =>
           refine ⟨kk + 1, vp, by omega, Nat.le_refl _, by go_num, (show Aside _ from ?_)⟩
           rw [HTK.out, HST.out]
           exact ⟨blk_set I5.out.blk 2 (.int .i64 (parV (restW x).data.toList)), R_off I5.out.own HG3.out _, keep_cell I5.out.keep _ _, below_set I5.out.below HGE.out, Nat.le_succ_of_le I5.out.len⟩
        · skip
          by_cases h3 : nm = ⟨#[110, 111, 116, 101]⟩
          · have HST : Hid (decStep c x = (c.1, c.2.1, c.2.2.1, restW x)) := Lib.hid (by rw [HSTEP.out, if_neg h0, if_neg h1, if_neg h2, if_pos h3])
            have b0 : (nm.toList == ([116, 114, 101, 101] : List UInt8)) = false := beq_eq_false_iff_ne.mpr (fun z => h0 (YtpnoghcdfbmpoaaGreatDoorX.toList_inj (z.trans zq18)))
            have b1 : (nm.toList == ([112, 97, 114, 101, 110, 116] : List UInt8)) = false := beq_eq_false_iff_ne.mpr (fun z => h1 (YtpnoghcdfbmpoaaGreatDoorX.toList_inj (z.trans zq18)))
            have b2 : (nm.toList == ([116, 105, 109, 101] : List UInt8)) = false := beq_eq_false_iff_ne.mpr (fun z => h2 (YtpnoghcdfbmpoaaGreatDoorX.toList_inj (z.trans zq18)))
            have b3 : (nm.toList == ([110, 111, 116, 101] : List UInt8)) = true := by rw [h3, YtpnoghcdfbmpoaaGreatDoorX.toList_eq]; exact beq_self_eq_true _
            clear h0 h1 h2 h3
            rw [HNM.out] at b0 b1 b2 b3
            go_wp2_with (first | (go_at_call 95; (with_reducible refine (strings_TrimSuffix.calls x ⟨#[10]⟩ (trimL x) _ HTR.out).mono ?_); rintro e w4 ⟨rfl, ⟨nd, rfl⟩⟩) | (go_at_call 94; (with_reducible refine (cutW_calls x HTS.out _).mono ?_); rintro e W4 ⟨rfl, n2, hn2⟩; have hb4 : Below wr.heap.size wr W4 := zq22; have I4 := Lib.hid (CmIn.same AI.out hb4 (Nat.lt_of_lt_of_le HG3.out AI.out.keep.1)); have hb := I4.out.blk; have g0 : W4.cell? ⟨gc, 0, none⟩ = some (.string c.1) := (blk_cell hb 0).trans rfl; have g1 : W4.cell? ⟨gc, 1, none⟩ = some vp := (blk_cell hb 1).trans rfl; have g2 : W4.cell? ⟨gc, 2, none⟩ = some (.int .i64 c.2.2.1) := (blk_cell hb 2).trans rfl; have g3 : W4.cell? ⟨gc, 3, none⟩ = some (.string c.2.2.2) := (blk_cell hb 3).trans rfl; have f0 := blk_frozen hb 0; have f1 := blk_frozen hb 1; have f2 := blk_frozen hb 2; have f3 := blk_frozen hb 3; clear hn2 hb4 hb) | ((with_reducible refine gate_builtin (b := .append) (xs := #[.tmp 33, .tmp 35]) rfl ?_); at_builtin; refine Kd.R_append Kd.string (w0 := W4) W3.heap.size rfl (.tmp 33) (.tmp 35) 29 9 (.string ⟨#[]⟩) 16 rfl Tryz.underlying29 info9 rfl zq9 zq9 vp c.2.1 (restW x) [.string (restW x)] (fun _ => True) (fun _ => False) rfl rfl rfl (fun _ hk => hk.elim) (fun _ _ => trivial) I4.out.own (Below.refl _ _) I4.out.keep.1 (by have := I4.out.len; omega) ?_; intro v5 W5 ho5 hb5 hg5 hat5; obtain ⟨A5, c5, rfl⟩ := Kd.R_slice ho5; rw [show (c.2.1 ++ [restW x]).length = c.2.1.length + 1 from List.length_append] at ho5; have hb := (hb5.block gc HG3.out).trans I4.out.blk; have g0 : W5.cell? ⟨gc, 0, none⟩ = some (.string c.1) := (blk_cell hb 0).trans rfl; have g1 : W5.cell? ⟨gc, 1, none⟩ = some vp := (blk_cell hb 1).trans rfl; have f1 := blk_frozen hb 1; have I5 := Lib.hid (And.intro hb (And.intro ho5 hb5)); clear hb ho5 hb5 hg5 hat5) | (go_at_call 96; (with_reducible refine (parse_calls (restW x) HRS.out _ (HG.out.below I4.out.below)).mono ?_); rintro e W5 ⟨ev, rfl, hb5⟩; have I5 := Lib.hid (CmIn.same I4.out hb5 (Nat.lt_of_lt_of_le HG3.out I4.out.keep.1)); have hb := I5.out.blk; have g0 : W5.cell? ⟨gc, 0, none⟩ = some (.string c.1) := (blk_cell hb 0).trans rfl; have g1 : W5.cell? ⟨gc, 1, none⟩ = some vp := (blk_cell hb 1).trans rfl; have g2 : W5.cell? ⟨gc, 2, none⟩ = some (.int .i64 c.2.2.1) := (blk_cell hb 2).trans rfl; have f2 := blk_frozen hb 2; clear hb hb5))
            go_roundg (L.length - (kk + 1))
            case measure => omega
            case rel =>
             refine ⟨kk + 1, vp, by omega, Nat.le_refl _, by go_num, (show Aside _ from ?_)⟩
             rw [HTK.out, HST.out]
             exact ⟨blk_set I4.out.blk 3 (.string (restW x)), R_off I4.out.own HG3.out _, keep_cell I4.out.keep _ _, below_set I4.out.below HGE.out, Nat.le_succ_of_le I4.out.len⟩
          · skip
            have HST : Hid (decStep c x = c) := Lib.hid (by rw [HSTEP.out, if_neg h0, if_neg h1, if_neg h2, if_neg h3])
            have b0 : (nm.toList == ([116, 114, 101, 101] : List UInt8)) = false := beq_eq_false_iff_ne.mpr (fun z => h0 (YtpnoghcdfbmpoaaGreatDoorX.toList_inj (z.trans zq18)))
            have b1 : (nm.toList == ([112, 97, 114, 101, 110, 116] : List UInt8)) = false := beq_eq_false_iff_ne.mpr (fun z => h1 (YtpnoghcdfbmpoaaGreatDoorX.toList_inj (z.trans zq18)))
            have b2 : (nm.toList == ([116, 105, 109, 101] : List UInt8)) = false := beq_eq_false_iff_ne.mpr (fun z => h2 (YtpnoghcdfbmpoaaGreatDoorX.toList_inj (z.trans zq18)))
            have b3 : (nm.toList == ([110, 111, 116, 101] : List UInt8)) = false := beq_eq_false_iff_ne.mpr (fun z => h3 (YtpnoghcdfbmpoaaGreatDoorX.toList_inj (z.trans zq18)))
            clear h0 h1 h2 h3
            rw [HNM.out] at b0 b1 b2 b3
            go_wp2_with (first | (go_at_call 95; (with_reducible refine (strings_TrimSuffix.calls x ⟨#[10]⟩ (trimL x) _ HTR.out).mono ?_); rintro e w4 ⟨rfl, ⟨nd, rfl⟩⟩) | (go_at_call 94; (with_reducible refine (cutW_calls x HTS.out _).mono ?_); rintro e W4 ⟨rfl, n2, hn2⟩; have hb4 : Below wr.heap.size wr W4 := zq22; have I4 := Lib.hid (CmIn.same AI.out hb4 (Nat.lt_of_lt_of_le HG3.out AI.out.keep.1)); have hb := I4.out.blk; have g0 : W4.cell? ⟨gc, 0, none⟩ = some (.string c.1) := (blk_cell hb 0).trans rfl; have g1 : W4.cell? ⟨gc, 1, none⟩ = some vp := (blk_cell hb 1).trans rfl; have g2 : W4.cell? ⟨gc, 2, none⟩ = some (.int .i64 c.2.2.1) := (blk_cell hb 2).trans rfl; have g3 : W4.cell? ⟨gc, 3, none⟩ = some (.string c.2.2.2) := (blk_cell hb 3).trans rfl; have f0 := blk_frozen hb 0; have f1 := blk_frozen hb 1; have f2 := blk_frozen hb 2; have f3 := blk_frozen hb 3; clear hn2 hb4 hb) | ((with_reducible refine gate_builtin (b := .append) (xs := #[.tmp 33, .tmp 35]) rfl ?_); at_builtin; refine Kd.R_append Kd.string (w0 := W4) W3.heap.size rfl (.tmp 33) (.tmp 35) 29 9 (.string ⟨#[]⟩) 16 rfl Tryz.underlying29 info9 rfl zq9 zq9 vp c.2.1 (restW x) [.string (restW x)] (fun _ => True) (fun _ => False) rfl rfl rfl (fun _ hk => hk.elim) (fun _ _ => trivial) I4.out.own (Below.refl _ _) I4.out.keep.1 (by have := I4.out.len; omega) ?_; intro v5 W5 ho5 hb5 hg5 hat5; obtain ⟨A5, c5, rfl⟩ := Kd.R_slice ho5; rw [show (c.2.1 ++ [restW x]).length = c.2.1.length + 1 from List.length_append] at ho5; have hb := (hb5.block gc HG3.out).trans I4.out.blk; have g0 : W5.cell? ⟨gc, 0, none⟩ = some (.string c.1) := (blk_cell hb 0).trans rfl; have g1 : W5.cell? ⟨gc, 1, none⟩ = some vp := (blk_cell hb 1).trans rfl; have f1 := blk_frozen hb 1; have I5 := Lib.hid (And.intro hb (And.intro ho5 hb5)); clear hb ho5 hb5 hg5 hat5) | (go_at_call 96; (with_reducible refine (parse_calls (restW x) HRS.out _ (HG.out.below I4.out.below)).mono ?_); rintro e W5 ⟨ev, rfl, hb5⟩; have I5 := Lib.hid (CmIn.same I4.out hb5 (Nat.lt_of_lt_of_le HG3.out I4.out.keep.1)); have hb := I5.out.blk; have g0 : W5.cell? ⟨gc, 0, none⟩ = some (.string c.1) := (blk_cell hb 0).trans rfl; have g1 : W5.cell? ⟨gc, 1, none⟩ = some vp := (blk_cell hb 1).trans rfl; have g2 : W5.cell? ⟨gc, 2, none⟩ = some (.int .i64 c.2.2.1) := (blk_cell hb 2).trans rfl; have f2 := blk_frozen hb 2; clear hb hb5))
            go_roundg (L.length - (kk + 1))
            case measure => omega
            case rel =>
             refine ⟨kk + 1, vp, by omega, Nat.le_refl _, by go_num, (show Aside _ from ?_)⟩
             rw [HTK.out, HST.out]
             exact ⟨I4.out.blk, I4.out.own, I4.out.keep, I4.out.below, Nat.le_succ_of_le I4.out.len⟩
  · have hke : kk = L.length := by omega
    have hltz : ¬ (kk : Int) < (L.length : Int) := by omega
    have hI := AI.out
    rw [hke, List.take_length, ← HDL.out] at hI
    have HKE := Lib.hid hke
    clear AI hke hlt
    obtain ⟨Ap, cp, hvp, hcp, hCp⟩ := Kd.R_reads hI.own
    subst hvp
    have HII := Lib.hid hI
    have HCC := Lib.hid hcp
    have HCP := Lib.hid hCp
    have HBW := Lib.hid hI.below
    have hb := hI.blk
    have hK : wr.cell? ⟨gc, 0, none⟩ = some (.string c.1) ∧ wr.cell? ⟨gc, 1, none⟩ = some (.slice Ap c.2.1.length cp) ∧ wr.cell? ⟨gc, 2, none⟩ = some (.int .i64 c.2.2.1) ∧ wr.cell? ⟨gc, 3, none⟩ = some (.string c.2.2.2) := ⟨(blk_cell hb 0).trans rfl, (blk_cell hb 1).trans rfl, (blk_cell hb 2).trans rfl, (blk_cell hb 3).trans rfl⟩
    have hgrw : wr.heap[gr]? = some (.cells #[.string (⟨#[]⟩ : ByteArray), .slice none 0 0, .int .i64 0, .string (⟨#[]⟩ : ByteArray)] 60 (0, 0)) := (hI.keep.2 gr (Array.getElem?_eq_some_iff.1 HGR3.out).1 HGRC.out zq12).trans HGR3.out
    have hRC : ∀ V, Below wr.heap.size wr V → ∀ j v, (#[.string (⟨#[]⟩ : ByteArray), .slice none 0 0, .int .i64 0, .string (⟨#[]⟩ : ByteArray)] : Array Value)[j]? = some v → V.cell? ⟨gr, j, none⟩ = some v := fun V hV j v hv => (blk_cell (blk_below hgrw hV) j).trans hv
    have hRF : ∀ V, Below wr.heap.size wr V → ∀ j, V.frozen? ⟨gr, j, none⟩ = false := fun V hV j => blk_frozen (blk_below hgrw hV) j
    have HK := Lib.hid hK
    have HNE := Lib.hid (Ne.symm HGRC.out)
    have HGL := Lib.hid (Array.getElem?_eq_some_iff.1 HGR3.out).1
    have HGW := Lib.hid hgrw
    have RC := Lib.hid hRC
    have RF := Lib.hid hRF
    have hK0 : wr.drew.cell? ⟨gc, 0, none⟩ = some (.string c.1) ∧ wr.drew.cell? ⟨gc, 1, none⟩ = some (.slice Ap c.2.1.length cp) ∧ wr.drew.cell? ⟨gc, 2, none⟩ = some (.int .i64 c.2.2.1) ∧ wr.drew.cell? ⟨gc, 3, none⟩ = some (.string c.2.2.2) := hK
    clear hI hcp hCp hb hK hgrw hRC hRF
    by_cases hcf0 : cf = 0
    · subst hcf0
      have HTX0 := Lib.hid (HTX.out rfl)
      have hbt : (txt.toList == data.toList) = b := by
       rw [HB.out]
       by_cases h : txt = data
       · rw [decide_eq_true ⟨rfl, h⟩, h]
         exact beq_self_eq_true _
       · rw [decide_eq_false (fun z => h z.2)]
         exact beq_eq_false_iff_ne.mpr (fun z => h (YtpnoghcdfbmpoaaGreatDoorX.toList_inj z))
      go_wp2
      go_region_held3 (fun w' => w'.cell? ⟨gc, 0, none⟩ = some (.string c.1) ∧ w'.cell? ⟨gc, 1, none⟩ = some (.slice Ap c.2.1.length cp) ∧ w'.cell? ⟨gc, 2, none⟩ = some (.int .i64 c.2.2.1) ∧ w'.cell? ⟨gc, 3, none⟩ = some (.string c.2.2.2)) (with_reducible first | assumption | exact keepS HNE.out zq10 | exact keepC HK.out zq4) ((first | (go_at_call 97; (refine (impl_CommitFault.calls k c.1 Ap cp c.2.1 c.2.2.1 c.2.2.2 0 _ (Kd.C_below HCP.out zq4) HCC.out HCF.out).mono ?_); rintro e V5 ⟨rfl, hb5⟩; have hb5w : Below wr.heap.size wr V5 := Below.trans zq4 hb5; have hK5 := keepC HK.out hb5w) | (go_at_call 98; (refine (impl_commitText.calls k c.1 Ap cp c.2.1 c.2.2.1 c.2.2.2 txt _ (Kd.C_below HCP.out hb5w) HCC.out ((HG.out.below HBW.out).below hb5w) HTX0.out).mono ?_); rintro e V6 ⟨rfl, hb6⟩; have hb6w : Below wr.heap.size wr V6 := hb5w.trans (hb6.mono hb5w.size); have hK6 := keepC HK.out hb6w; have r0 := RC.out V6 hb6w 0 _ rfl; have r1 := RC.out V6 hb6w 1 _ rfl; have r2 := RC.out V6 hb6w 2 _ rfl; have r3 := RC.out V6 hb6w 3 _ rfl; have z0 := RF.out V6 hb6w 0; have z1 := RF.out V6 hb6w 1; have z2 := RF.out V6 hb6w 2; have z3 := RF.out V6 hb6w 3; have GV := Lib.hid (blk_below HGW.out hb6w); have BV := Lib.hid hb6w)))
      go_wp2
      refine bodyPost_ret (results_ct rfl _ _ gr 60 #[.string c.1, .slice Ap c.2.1.length cp, .int .i64 c.2.2.1, .string c.2.2.2] (0, 0) _ rfl (blk_set (blk_set (blk_set (blk_set GV.out 0 (.string c.1)) 1 (.slice Ap c.2.1.length cp)) 2 (.int .i64 c.2.2.1)) 3 (.string c.2.2.2)) Tryz.underlying60 rfl zq6) rfl ?_
      exact ⟨_, rfl, Kd.R_lower (R_off (R_off (R_off (R_off (Kd.R_below HII.out.own BV.out) HGL.out _) HGL.out _) HGL.out _) HGL.out _) HWB.out, below_set (below_set (below_set (below_set (HBW.out.trans (BV.out.mono HBW.out.size)) HGRE.out) HGRE.out) HGRE.out) HGRE.out⟩
    · have hbf : b = false := by rw [HB.out]; simp [hcf0]
      subst hbf
      rcases HC4.out with rfl | rfl | rfl | rfl | rfl
      · exact absurd rfl hcf0
      all_goals (
       clear hcf0
       go_wp2
       refine wp_region_noPanic ?_
       refine wp_region_held_drew (S := (fun w' => w'.cell? ⟨gc, 0, none⟩ = some (.string c.1) ∧ w'.cell? ⟨gc, 1, none⟩ = some (.slice Ap c.2.1.length cp) ∧ w'.cell? ⟨gc, 2, none⟩ = some (.int .i64 c.2.2.1) ∧ w'.cell? ⟨gc, 3, none⟩ = some (.string c.2.2.2))) zq6 hK0 ?_
       intro hS0
       refine wpAnyH_take (i := 0) (v := .agg #[.string c.1, .slice Ap c.2.1.length cp, .int .i64 c.2.2.1, .string c.2.2.2]) rfl zq6 zq6 zq6 (fun _ _ _ h => h) (Or.inl ⟨rfl, fun w' hSw => by { dsimp only at hSw; go_simp }⟩) zq10 ?_
       simp only [Act.put, List.setIfInBounds_toArray, List.set_cons_zero, List.set_cons_succ]
       refine wpAnyH_take (i := 1) (v := .agg #[.string c.1, .slice Ap c.2.1.length cp, .int .i64 c.2.2.1, .string c.2.2.2]) rfl zq6 zq6 zq6 (fun _ _ _ h => h) (Or.inl ⟨rfl, fun w' hSw => by { dsimp only at hSw; go_simp }⟩) zq10 ?_
       simp only [Act.put, List.setIfInBounds_toArray, List.set_cons_zero, List.set_cons_succ]
       refine wpAnyH_ready (rs := [2]) zq6 zq12 ?_
       refine AllReadyH.cons rfl (fun K hK => ?_) AllReadyH.nil
       go_simp
       refine (impl_CommitFault.calls k c.1 Ap cp c.2.1 c.2.2.1 c.2.2.2 _ _ (Kd.C_below HCP.out (below_drew1 (Below.refl _ _))) HCC.out HCF.out).mono ?_
       rintro e V5 ⟨rfl, hb5⟩
       have hb5w : Below wr.heap.size wr V5 := Below.trans (below_drew1 (Below.refl _ _)) hb5
       have r0 := RC.out V5 hb5w 0 _ rfl
       have r1 := RC.out V5 hb5w 1 _ rfl
       have r2 := RC.out V5 hb5w 2 _ rfl
       have r3 := RC.out V5 hb5w 3 _ rfl
       have z0 := RF.out V5 hb5w 0
       have z1 := RF.out V5 hb5w 1
       have z2 := RF.out V5 hb5w 2
       have z3 := RF.out V5 hb5w 3
       have GV := Lib.hid (blk_below HGW.out hb5w)
       have BV := Lib.hid hb5w
       refine hK.out _ _ (keepC HK.out hb5w) (fun hHeld => ?_)
       clear hK hS0 hK0
       try simp only [Act.put, List.setIfInBounds_toArray, List.set_cons_zero, List.set_cons_succ]
       refine wpAnyH_take (i := 3) (v := .bool false) rfl zq6 zq6 zq6 (fun _ _ _ h => h) (Or.inl ⟨rfl, fun w' hSw => by first | (go_simp; done) | (go_simp; rfl)⟩) zq10 ?_
       simp only [Act.put, List.setIfInBounds_toArray, List.set_cons_zero, List.set_cons_succ]
       refine wpAnyH_take (i := 4) (v := .bool false) rfl zq6 zq6 zq6 (fun _ _ _ h => h) (Or.inl ⟨rfl, fun w' hSw => by first | (go_simp; done) | (go_simp; rfl)⟩) zq10 ?_
       simp only [Act.put, List.setIfInBounds_toArray, List.set_cons_zero, List.set_cons_succ]
       refine wpAnyH_take (i := 5) (v := undef) rfl zq6 zq6 zq6 (fun _ _ _ h => h) (Or.inr ⟨rfl, rfl⟩) zq10 ?_
       simp only [Act.put, List.setIfInBounds_toArray, List.set_cons_zero, List.set_cons_succ]
       refine wpAnyH_take (i := 6) (v := undef) rfl zq6 zq6 zq6 (fun _ _ _ h => h) (Or.inr ⟨rfl, rfl⟩) zq10 ?_
       simp only [Act.put, List.setIfInBounds_toArray, List.set_cons_zero, List.set_cons_succ]
       refine wpAnyH_take (i := 7) (v := undef) rfl zq6 zq6 zq6 (fun _ _ _ h => h) (Or.inr ⟨rfl, rfl⟩) zq10 ?_
       simp only [Act.put, List.setIfInBounds_toArray, List.set_cons_zero, List.set_cons_succ]
       refine wpAnyH_take (i := 8) (v := undef) rfl zq6 zq6 zq6 (fun _ _ _ h => h) (Or.inr ⟨rfl, rfl⟩) zq10 ?_
       simp only [Act.put, List.setIfInBounds_toArray, List.set_cons_zero, List.set_cons_succ]
       refine wpAnyH_take (i := 9) (v := .bool false) rfl zq6 zq6 zq6 (fun _ _ _ h => h) (Or.inl ⟨rfl, fun w' hSw => by first | (go_simp; done) | (go_simp; rfl)⟩) zq10 ?_
       simp only [Act.put, List.setIfInBounds_toArray, List.set_cons_zero, List.set_cons_succ]
       refine wpAnyH_ready (rs := [10]) zq6 zq12 ?_
       refine AllReadyH.cons rfl (fun K2 hK2 => ?_) AllReadyH.nil
       go_simp
       refine hK2.out _ _ (keepS HNE.out hHeld) (fun hHeld2 => ?_)
       clear hK2 hHeld
       try simp only [Act.put, List.setIfInBounds_toArray, List.set_cons_zero, List.set_cons_succ]
       refine wpAnyH_ready (rs := [11]) zq6 zq12 ?_
       refine AllReadyH.cons rfl (fun K3 hK3 => ?_) AllReadyH.nil
       go_simp
       refine hK3.out _ _ hHeld2 (fun hHeld3 => ?_)
       clear hK3
       try simp only [Act.put, List.setIfInBounds_toArray, List.set_cons_zero, List.set_cons_succ]
       refine wpAnyH_done zq6 ?_ _
       refine NoPanic.normal ?_
       go_wp2
       refine bodyPost_ret (results_ct rfl _ _ gr 60 #[.string c.1, .slice Ap c.2.1.length cp, .int .i64 c.2.2.1, .string c.2.2.2] (0, 0) _ rfl (blk_set (blk_set (blk_set (blk_set GV.out 0 (.string c.1)) 1 (.slice Ap c.2.1.length cp)) 2 (.int .i64 c.2.2.1)) 3 (.string c.2.2.2)) Tryz.underlying60 rfl zq6) rfl ?_
       exact ⟨_, rfl, Kd.R_lower (R_off (R_off (R_off (R_off (Kd.R_below HII.out.own BV.out) HGL.out _) HGL.out _) HGL.out _) HGL.out _) HWB.out, below_set (below_set (below_set (below_set (HBW.out.trans (BV.out.mono HBW.out.size)) HGRE.out) HGRE.out) HGRE.out) HGRE.out⟩)
end Go.Proofs.YtpnoghcdfbmpoaaGreatDoor.PX.X

namespace Go.Proofs.YtpnoghcdfbmpoaaGreatDoor.PX
open Go.RowKit Go.Proofs.YtpnoghcdfbmpoaaGreatDoorW.PrintWords Go.Proofs.YtpnoghcdfbmpoaaGreatDoorW.PrintLast Go.Proofs.YtpnoghcdfbmpoaaGreatDoorW.PrintMore
attribute [local go_sem] max2_int min2_int max_two min_two max_three min_three max_four min_four   -- for this text's walks alone
set_option linter.unusedVariables false
set_option linter.unusedSimpArgs false
def impl_decodeCommit.g (k : Nat) (a0 : ByteArray) (c : X.CmT) : Option (ByteArray × List ByteArray × Int × ByteArray × Bool) :=
 (impl_CommitFault.f k c.1 c.2.1 c.2.2.1 c.2.2.2).bind fun cf => if cf = 0 then (impl_commitText.f k c.1 c.2.1 c.2.2.1 c.2.2.2).bind fun t => some (c.1, c.2.1, c.2.2.1, c.2.2.2, decide (t = a0)) else if cf = 1 ∨ cf = 2 ∨ cf = 3 ∨ cf = 5 then some (c.1, c.2.1, c.2.2.1, c.2.2.2, false) else none
def impl_decodeCommit.f (k : Nat) (a0 : ByteArray) : Option (ByteArray × List ByteArray × Int × ByteArray × Bool) :=
 (impl_linesOf.f a0).bind fun L => if (decide (L.length ≤ 1048576) && L.all fun x => decide (x.size ≤ 1048576)) = true then impl_decodeCommit.g k a0 (X.decL L) else none
theorem impl_decodeCommit.calls (k : Nat) (a0 : ByteArray) (r1 : ByteArray) (r2 : List ByteArray) (r3 : Int) (r4 : ByteArray) (r5 : Bool) (w : World) (hG : Gt w) (h : impl_decodeCommit.f k a0 = some (r1, r2, r3, r4, r5)) :
  Calls Tryz.prog 64 #[.string a0] w fun e w' => ∃ v1_ : Value, e = .returned (.tuple #[.agg #[.string r1, v1_, .int .i64 r3, .string r4], .bool r5]) ∧ Kd.R Kd.string 9 w' w.heap.size (fun _ => True) v1_ r2 ∧ Below w.heap.size w w' := by
 unfold impl_decodeCommit.f at h
 cases hL : impl_linesOf.f a0 with
 | none => rw [hL] at h; cases h
 | some L =>
  rw [hL, Option.bind_some] at h
  by_cases hc : (decide (L.length ≤ 1048576) && L.all fun x => decide (x.size ≤ 1048576)) = true
  ·
   rw [if_pos hc] at h
   rw [Bool.and_eq_true, decide_eq_true_eq, List.all_eq_true] at hc
   obtain ⟨hn, hz⟩ := hc
   have hz' : ∀ x ∈ L, x.size ≤ 1048576 := fun x hx => zX (hz x hx)
   unfold impl_decodeCommit.g at h
   cases hf : impl_CommitFault.f k (X.decL L).1 (X.decL L).2.1 (X.decL L).2.2.1 (X.decL L).2.2.2 with
   | none => rw [hf] at h; cases h
   | some cf =>
    rw [hf, Option.bind_some] at h
    by_cases h0 : cf = 0
    ·
     rw [if_pos h0] at h
     cases ht : impl_commitText.f k (X.decL L).1 (X.decL L).2.1 (X.decL L).2.2.1 (X.decL L).2.2.2 with
     | none => rw [ht] at h; cases h
     | some t =>
      rw [ht, Option.bind_some] at h
      have key := X.decode_calls k a0 L cf t w hL hn hz' hf (.inl h0) (fun _ => ht) hG
      have hd : decide (cf = 0 ∧ t = a0) = decide (t = a0) := by simp [h0]
      rw [hd] at key
      have h2 := Option.some.inj h
      simp only [Prod.mk.injEq] at h2
      obtain ⟨e1, e2, e3, e4, e5⟩ := h2
      rw [e1, e2, e3, e4, e5] at key
      exact key
    rw [if_neg h0] at h
    by_cases h4 : cf = 1 ∨ cf = 2 ∨ cf = 3 ∨ cf = 5
    ·
     rw [if_pos h4] at h
     have key := X.decode_calls k a0 L cf ⟨#[]⟩ w hL hn hz' hf (.inr h4) (fun z => absurd z h0) hG
     have hd : decide (cf = 0 ∧ (⟨#[]⟩ : ByteArray) = a0) = false := by simp [h0]
     rw [hd] at key
     have h2 := Option.some.inj h
     simp only [Prod.mk.injEq] at h2
     obtain ⟨e1, e2, e3, e4, e5⟩ := h2
     rw [e1, e2, e3, e4, e5] at key
     exact key
    rw [if_neg h4] at h
    cases h
  rw [if_neg hc] at h
  cases h
end Go.Proofs.YtpnoghcdfbmpoaaGreatDoor.PX
