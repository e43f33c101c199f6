/- Texts of this claim set one behind another by wip/bundle.py: XPathsOf, PXf51. -/
import Derived.Test.YtjibadlbiapcmaaGreatDoorBDF15
import Derived.Test.YtjibadlbiapcmaaGreatDoorBDF18
import Derived.Test.YtjibadlbiapcmaaGreatDoorBDF11
import Derived.Shelf.Sort.Plain
import Derived.Shelf.Slices.In.SortNone
namespace Go.Proofs.YtjibadlbiapcmaaGreatDoor.PX.X
open Go Go.RowKit Go.Lib Go.Proofs.YtjibadlbiapcmaaGreatDoorW.PrintWords Go.Proofs.YtjibadlbiapcmaaGreatDoor.PX
set_option linter.unusedVariables false
set_option linter.unusedSimpArgs false
def sortB (l : List ByteArray) : List ByteArray := ((l.map dataL).mergeSort fun x y => decide (x ≤ y)).map backL
open Go.Sort in
theorem grow_any (W : World) (os : Array Obj) : Go.RowKit.Below W.heap.size W (grow W os) := by
  refine ⟨rfl, rfl, rfl, ?_, fun i hi => ?_⟩
  · show W.heap.size ≤ (W.heap ++ os).size
    rw [Array.size_append]
    omega
  · show (W.heap ++ os)[i]? = _
    rw [Array.getElem?_append_left hi]
open Go.Proofs Go.Sort in
theorem sort_own (w : World) (base : Nat) (v : Value) (l : List ByteArray) (hR : Kd.R Kd.string 9 w base (fun _ => True) v l) (hl : l.length < 4611686018427387904) :
    Calls Tryz.prog 89 #[v] w fun e w' => e = .returned (.tuple #[]) ∧ Kd.R Kd.string 9 w' base (fun _ => True) v (sortB l) ∧ ∀ w0 B, Go.RowKit.Below B w0 w → B ≤ base → Go.RowKit.Below B w0 w' := by
  by_cases hv : v = .slice none 0 0
  · subst hv
    have h0 : l = [] := by
      have := (R_str_own hR).2
      rcases this with ⟨_, h⟩ | ⟨g, cap, cur, h, _⟩
      · exact List.eq_nil_of_length_eq_zero h
      · cases h
    subst h0
    refine (Any.slices_Sort_string_none Tryz.lays190 none 0 w).mono ?_
    rintro e w' ⟨rfl, rfl⟩
    have e0 : sortB [] = [] := by simp [sortB]
    rw [e0]
    exact ⟨rfl, hR, fun _ _ h _ => h⟩
  · have ho := R_str_own hR
    rw [← Lib.map_encStr] at ho
    obtain ⟨g, cap, rfl, hbg, hgl, hnc, hcm, hlen, hH⟩ := Lib.holds_of_ownsRow (enc := encStr) ho hv
    have hlen2 : (l.map fun x => x.data.toList).length = l.length := List.length_map _
    have hc := Any.slices_Sort_string Tryz.lays190 g 0 cap (l.map fun x => x.data.toList) w hH hgl (by omega)
    rw [hlen2] at hc
    refine hc.mono ?_
    rintro e w' ⟨rfl, q, os, rfl⟩
    have hsl : ((l.map fun x => x.data.toList).mergeSort fun x y => decide (x ≤ y)).length = l.length := by rw [List.length_mergeSort]; exact hlen2
    have hz := Lib.ownsRow_putRow (q := q) (ys := (l.map fun x => x.data.toList).mergeSort fun x y => decide (x ≤ y)) (k := l.length) ho hsl (Nat.le_refl _)
    rw [show ((l.map fun x => x.data.toList).mergeSort fun x y => decide (x ≤ y)).take l.length = ((l.map fun x => x.data.toList).mergeSort fun x y => decide (x ≤ y)) from by rw [← hsl]; exact List.take_length, ← back_enc] at hz
    have hb := grow_any (putRow encStr (Sort.ahead w q) g 0 ((l.map fun x => x.data.toList).mergeSort fun x y => decide (x ≤ y)).toArray) os
    have hcl : (sortB l).length = l.length := by unfold sortB; rw [List.length_map]; exact hsl
    refine ⟨rfl, ?_, fun w0 B h hB => ?_⟩
    · have hz2 := pw_own_below hz hb
      have := R_str_of (l := sortB l) (w := grow (putRow encStr (Sort.ahead w q) g 0 ((l.map fun x => x.data.toList).mergeSort fun x y => decide (x ≤ y)).toArray) os) (base := base) (e := 9) (v := .slice (some ⟨g, 0, none⟩) l.length cap) (by rw [hcl]; exact hz2)
      exact this
    · have hp := Lib.below_putRow (enc := encStr) (q := q) (d := ((l.map fun x => x.data.toList).mergeSort fun x y => decide (x ≤ y)).toArray) h (Nat.le_trans hB hbg)
      exact ⟨hp.os, hp.tape, hp.output, Nat.le_trans hp.size hb.size, fun k hk => by
        have hw : (putRow encStr (Sort.ahead w q) g 0 ((l.map fun x => x.data.toList).mergeSort fun x y => decide (x ≤ y)).toArray).heap.size = w.heap.size := by simp [putRow, mapBlock, Sort.ahead]
        rw [hb.block k (by rw [hw]; omega)]
        exact hp.block k hk⟩
def pathsL (l : List FileT) : List ByteArray := l.map fun x => x.f0
def allP (ls : List (List FileT)) : List ByteArray := ls.flatMap pathsL
theorem at_row {w : World} {A : Option Addr} {n e : Nat} {ls : List (List FileT)} (h : Kd.C (Kd.slice e k74) w A n ls) (i : Nat) (hi : i < ls.length) : ∃ ad A' c', A = some ad ∧ w.cell? (ad.add i) = some (.slice A' (ls[i]).length c') ∧ (ls[i]).length ≤ c' ∧ Kd.C k74 w A' (ls[i]).length (ls[i]) := by
  obtain ⟨ad, e0, hc⟩ := h.2.2 (by have := h.1; omega)
  obtain ⟨cs, hl, ⟨A', c', hcs, hle, hC⟩, hcell⟩ := hc i ls[i] (List.getElem?_eq_getElem hi)
  refine ⟨ad, A', c', e0, ?_, hle, hC⟩
  have := hcell 0 (.slice A' (ls[i]).length c') (by rw [hcs]; rfl)
  rw [show (i * (Kd.slice e k74).sz + 0) = i from Nat.mul_one i] at this
  exact this
theorem below3 {w wr w2 : World} {ge : Nat} {a b c : Value} (hb : Below w.heap.size w wr) (h2 : Below wr.heap.size wr w2) (hge : ge = wr.heap.size) : Below w.heap.size w (((w2.setCell ⟨ge, 0, none⟩ a).setCell ⟨ge, 1, none⟩ b).setCell ⟨ge, 2, none⟩ c) :=
  hb.trans ((below_set (below_set (below_set h2 (Nat.le_of_eq hge.symm)) (Nat.le_of_eq hge.symm)) (Nat.le_of_eq hge.symm)).mono hb.size)
theorem moved3 {wr w2 : World} {ge : Nat} {a b c : Value} {e : Nat} {B : Nat} {ok : Nat → Prop} {v : Value} {l : List ByteArray} (hr : Kd.R Kd.string e wr B ok v l) (h2 : Below wr.heap.size wr w2) (hge : ge = wr.heap.size) : Kd.R Kd.string e (((w2.setCell ⟨ge, 0, none⟩ a).setCell ⟨ge, 1, none⟩ b).setCell ⟨ge, 2, none⟩ c) B ok v l :=
  Kd.R_below hr (below_set (below_set (below_set h2 (Nat.le_of_eq hge.symm)) (Nat.le_of_eq hge.symm)) (Nat.le_of_eq hge.symm))
set_option maxHeartbeats 1000000 in
set_option maxRecDepth 8000 in
theorem pathsOf_calls (A0 : Option Addr) (c0 : Nat) (ls : List (List FileT)) (w : World) (hr0 : Kd.C (Kd.slice 74 k74) w A0 ls.length ls) (hbig : ls.length ≤ 1048576) (htot : (allP ls).length ≤ 1099511627776) :
    Calls Tryz.prog 51 #[.slice A0 ls.length c0] w fun e w' => ∃ v, e = .returned v ∧ Kd.R Kd.string 9 w' w.heap.size (fun _ => True) v (compactB (sortB (allP ls))) ∧ Below w.heap.size w w' := by
  have HR := Lib.hid hr0
  have HTOT := Lib.hid htot
  clear hr0 htot
  go_enter Tryz.func51, Tryz.ntmps51
  go_wp2_with (first | ((with_reducible refine gate_dst (N := 8) rfl ?_); refine Kd.R_lit Kd.string _ 9 ?hg (N := 8) ?hd (xs := ([] : List ByteArray)) (inner := []) (ok := fun _ => True) (okp := fun _ => True) ?hr ?hp (fun _ hk => hk) trivial (Below.refl _ _) (Nat.le_refl _) (by simp) ?_; (case hd => rfl); (case hg => rfl); (case hr => first | (go_simp; done) | (go_simp; rfl)); (case hp => exact (Reps.none _ _)); intro v3 w2 ho3 hb2 hg_ hnew_; clear hg_ hnew_; have HO := Lib.hid ho3; have HB2 := Lib.hid hb2; clear ho3 hb2))
  go_loopg [3, 11] ls.length (fun gg s3 s11 wr => ∃ kk : Nat, kk ≤ ls.length ∧ ls.length - kk ≤ gg ∧ s11 = .int .i64 kk ∧ Aside (Kd.R Kd.string 9 wr w.heap.size (fun _ => True) s3 (allP (ls.take kk))) ∧ Aside (Below w.heap.size w wr))
  case atStart => exact ⟨0, Nat.zero_le _, by omega, rfl, HO.out, HB2.out⟩
  case round =>
    obtain ⟨kk, hkk, hg, rfl, AO, AB⟩ := hrel
    clear HO HB2
    have hkz : (0 : Int) ≤ (kk : Int) := by omega
    by_cases hlt : kk < ls.length
    · have hltz : (kk : Int) < (ls.length : Int) := by omega
      obtain ⟨ad, A1, c1, rfl, q0, hc1, hC1⟩ := at_row HR.out kk hlt
      replace q0 := (AB.out.cell (World.block_lt_of_cell? w _ q0)).trans q0
      have htake : allP (ls.take (kk + 1)) = allP (ls.take kk) ++ pathsL ls[kk] := by
        rw [List.take_succ_eq_append_getElem hlt]
        unfold allP
        rw [List.flatMap_append]
        simp
      have htl : (allP (ls.take (kk + 1))).length ≤ 1099511627776 := by
        have h1 : allP ls = allP (ls.take (kk + 1)) ++ allP (ls.drop (kk + 1)) := by
          unfold allP
          rw [← List.flatMap_append, List.take_append_drop]
        have h2 := HTOT.out
        rw [h1, List.length_append] at h2
        omega
      generalize ls[kk] = l1 at q0 hc1 hC1 htake
      rw [htake, List.length_append] at htl
      have hpl : (pathsL l1).length = l1.length := List.length_map _
      rw [hpl] at htl
      have HT := Lib.hid htake
      have HTL := Lib.hid htl
      have HC1 := Lib.hid hC1
      clear htake htl hC1 hpl
      generalize allP (ls.take kk) = P0 at AO HT HTL
      go_wp2
      go_loopg [3, 17] l1.length (fun gg s3 s17 w3 => ∃ jj : Nat, jj ≤ l1.length ∧ l1.length - jj ≤ gg ∧ s17 = .int .i64 jj ∧ Aside (Kd.R Kd.string 9 w3 w.heap.size (fun _ => True) s3 (P0 ++ pathsL (l1.take jj))) ∧ Aside (Below w.heap.size w w3))
      case atStart => exact ⟨0, Nat.zero_le _, by omega, rfl, (by have := AO.out; rw [show P0 ++ pathsL (l1.take 0) = P0 from List.append_nil _]; exact this), AB.out⟩
      case round =>
        obtain ⟨jj, hjj, hg3, rfl, AO3, AB3⟩ := hrel
        clear AO AB q0
        have hjz : (0 : Int) ≤ (jj : Int) := by omega
        by_cases hlj : jj < l1.length
        · have hljz : (jj : Int) < (l1.length : Int) := by omega
          obtain ⟨a1, rfl, q0, q1, q2⟩ := at_T74 HC1.out (jj : Int) hjz hljz
          replace q0 := (AB3.out.cell (World.block_lt_of_cell? w _ q0)).trans q0
          replace q1 := (AB3.out.cell (World.block_lt_of_cell? w _ q1)).trans q1
          replace q2 := (AB3.out.cell (World.block_lt_of_cell? w _ q2)).trans q2
          rw [Int.toNat_natCast] at q0 q1 q2
          have hx : rd_T74 l1 (jj : Int) = l1[jj] := by
            show l1.getD ((jj : Int)).toNat _ = _
            rw [Int.toNat_natCast, List.getD_eq_getElem?_getD, List.getElem?_eq_getElem hlj, Option.getD_some]
          have ht2 : P0 ++ pathsL (l1.take (jj + 1)) = (P0 ++ pathsL (l1.take jj)) ++ [l1[jj].f0] := by
            rw [List.take_succ_eq_append_getElem hlj, List.append_assoc]
            unfold pathsL
            rw [List.map_append]
            rfl
          have hl2 : (P0 ++ pathsL (l1.take jj)).length ≤ 1099511627776 := by
            have h1 := HTL.out
            unfold pathsL
            rw [List.length_append, List.length_map, List.length_take]
            omega
          rw [hx] at q0 q1 q2
          clear hx
          generalize l1[jj] = y at q0 q1 q2 ht2
          have HT2 := Lib.hid ht2
          have HL2 := Lib.hid hl2
          clear ht2 hl2
          have hwj : IntKind.i64.wrap ((jj : Int) + 1) = (jj : Int) + 1 := IntWalk.i64_in _ (by have h1 := HTL.out; omega)
          go_wp2_with (first | ((with_reducible refine gate_dst (N := 7) rfl ?_); refine box_event ?hg (N := 7) ?hd (cs := #[.string (⟨#[]⟩ : ByteArray), .int .i64 0, .string (⟨#[]⟩ : ByteArray)]) (t := 74) ?hr ?_; (case hd => rfl); (case hg => rfl); (case hr => first | (go_simp; done) | (go_simp; rfl)); intro ge hge w2 hbox hb2; have hcz0 : w2.cell? ⟨ge, 0, none⟩ = some (.string (⟨#[]⟩ : ByteArray)) := (blk_cell hbox 0).trans rfl; have hcz1 : w2.cell? ⟨ge, 1, none⟩ = some (.int .i64 0) := (blk_cell hbox 1).trans rfl; have hcz2 : w2.cell? ⟨ge, 2, none⟩ = some (.string (⟨#[]⟩ : ByteArray)) := (blk_cell hbox 2).trans rfl; have hfz0 := blk_frozen hbox 0; have hfz1 := blk_frozen hbox 1; have hfz2 := blk_frozen hbox 2; have HB2 := Lib.hid hb2; have HGE := Lib.hid hge; clear hbox hb2 hge) | ((with_reducible refine gate_builtin (b := .append) (xs := #[.tmp 21, .tmp 24]) rfl ?_); at_builtin; refine Kd.R_append Kd.string (w0 := w) w.heap.size rfl (.tmp 21) (.tmp 24) 35 9 (.string ⟨#[]⟩) 16 rfl Tryz.underlying35 info9 rfl (by decide) (by decide) u3 (P0 ++ pathsL (l1.take jj)) y.f0 [.string y.f0] (fun _ => True) (fun _ => False) rfl (by first | (go_simp; done) | (go_simp; rfl)) ?aP (fun _ hk => hk.elim) ?aF ?aO ?aB ?aS ?aL ?_; (case aP => exact rfl); (case aF => exact (fun _ _ => trivial)); (case aO => exact moved3 AO3.out HB2.out HGE.out); (case aB => exact below3 AB3.out HB2.out HGE.out); (case aS => exact below_size (below3 AB3.out HB2.out HGE.out)); (case aL => have := HL2.out; omega); intro v5 w5 ho5 hb5 hg5 hat5; have O5 := Lib.hid ho5; have B5 := Lib.hid hb5; clear ho5 hb5 hg5 hat5))
          go_roundg (l1.length - (jj + 1))
          case measure => omega
          case rel => exact ⟨jj + 1, by omega, Nat.le_refl _, by have h1 := HTL.out; go_num, by rw [HT2.out]; exact O5.out, B5.out⟩
        · have hje : jj = l1.length := by omega
          have hljz : ¬ (jj : Int) < (l1.length : Int) := by omega
          have o3 := AO3.out
          rw [hje, List.take_length, ← HT.out] at o3
          have O3 := Lib.hid o3
          clear o3 AO3 hje
          go_wp2
          go_roundg (ls.length - (kk + 1))
          case measure => omega
          case rel => exact ⟨kk + 1, by omega, Nat.le_refl _, by go_num, O3.out, AB3.out⟩
    · have hke : kk = ls.length := by omega
      have hltz : ¬ (kk : Int) < (ls.length : Int) := by omega
      have AO2 := AO.out
      rw [hke, List.take_length] at AO2
      have HS := Lib.hid (sort_own wr w.heap.size _ (allP ls) AO2 (by have := HTOT.out; omega))
      have hsl : (sortB (allP ls)).length = (allP ls).length := by
        unfold sortB
        rw [List.length_map, List.length_mergeSort, List.length_map]
      clear AO2 AO hke
      go_wp2_with (first | (go_at_call 89; (with_reducible refine HS.out.mono ?_); rintro e W4 ⟨rfl, ho4, hb4⟩; have O4 := Lib.hid ho4; have B4 := Lib.hid (hb4 _ _ AB.out (Nat.le_refl _)); clear ho4 hb4) | (go_at_call 90; (with_reducible refine (compact_own W4 w.heap.size _ (sortB (allP ls)) O4.out (by have := HTOT.out; omega)).mono ?_); rintro e W5 ⟨v5, rfl, ho5, hb5⟩; have O5 := Lib.hid ho5; have B5 := Lib.hid (hb5 _ _ B4.out (Nat.le_refl _)); clear ho5 hb5))
      go_ret
      exact ⟨_, rfl, O5.out, B5.out⟩
end Go.Proofs.YtjibadlbiapcmaaGreatDoor.PX.X

namespace Go.Proofs.YtjibadlbiapcmaaGreatDoor.PX
open Go.RowKit Go.Proofs.YtjibadlbiapcmaaGreatDoorW.PrintWords Go.Proofs.YtjibadlbiapcmaaGreatDoorW.PrintLast Go.Proofs.YtjibadlbiapcmaaGreatDoorW.PrintMore
attribute [local go_sem] max2_int min2_int max_two min_two max_three min_three max_four min_four   -- for this text's walks alone
set_option linter.unusedVariables false
set_option linter.unusedSimpArgs false

/-! ### impl_pathsOf: function 51 -/
def impl_pathsOf.f (l0 : List (List X.FileT)) : Option (List ByteArray) := if l0.length ≤ 1048576 then (if (X.allP l0).length ≤ 1099511627776 then some (X.compactB (X.sortB (X.allP l0))) else none) else none
theorem impl_pathsOf.calls (A0 : Option Addr) (c0 : Nat) (l0 : List (List X.FileT)) (r : List ByteArray) (w : World) (hr0 : Kd.C (Kd.slice 74 k74) w A0 l0.length l0) (hc0 : l0.length ≤ c0) (h : impl_pathsOf.f l0 = some r) :
  Calls Tryz.prog 51 #[.slice A0 l0.length c0] w fun e w' => ∃ v0_ : Value, e = .returned (v0_) ∧ Kd.R Kd.string 9 w' w.heap.size (fun _ => True) v0_ r ∧ Below w.heap.size w w' := by
 unfold impl_pathsOf.f at h
 by_cases hk : l0.length ≤ 1048576
 ·
  rw [if_pos hk] at h
  by_cases h2 : (X.allP l0).length ≤ 1099511627776
  ·
   rw [if_pos h2] at h
   obtain rfl := Option.some.inj h
   exact X.pathsOf_calls A0 c0 l0 w hr0 hk h2
  ·
   rw [if_neg h2] at h
   cases h
 ·
  rw [if_neg hk] at h
  cases h

end Go.Proofs.YtjibadlbiapcmaaGreatDoor.PX
